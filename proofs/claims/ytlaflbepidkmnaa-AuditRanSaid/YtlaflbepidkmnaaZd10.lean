/- Lemmas: The document's kernel in memory (ref25). -/
import Derived.Test.YtlaflbepidkmnaaProg
import Derived.Test.YtlaflbepidkmnaaZd9
import Derived.Deep.Cut
import Derived.Lib.Hide
import Derived.OwnWalk
import Derived.Maps.AppendAt
import Derived.BigQuiet
/- Rat -/
namespace Go.Proofs.Ytlaflbepidkmnaa
open Go.RowKit
attribute [local go_sem] setCell_twice Ext.alloc Ext.drew
set_option linter.unusedSimpArgs false
set_option linter.unusedVariables false
set_option maxRecDepth 100000
set_option maxHeartbeats 1600000
attribute [local irreducible] Calls

def encJp (p : Option Nat) : List Value := [.pointer (p.map fun g => ⟨g, 0, none⟩)]
def encH (n : Nat) : List Value := [.int .u64 n]
def opAt (os : List (Option Nat)) (i : Nat) : Option Nat := os.getD i none
structure RB where
  gk : Nat
  gp : Nat
  gc : Nat
  gt : Nat
  gs : Nat
  gj : Nat
  gh : Nat
  gl : Nat
  base : Nat
  vt : Value
  va : Value
  vb : Value
  ps : List (Tsk × Value)
def rcs (b : RB) (s : TSet) (t ran last : Int) (ev : Value) : Array Value :=
  #[.int .i64 s.reload, b.vt, .int .i64 t, .int .i64 ran, .int .i64 last, .slice (some ⟨b.gj, 0, none⟩) s.tasks.length s.tasks.length, .pointer (some ⟨b.gt, 0, none⟩), .slice (some ⟨b.gh, 0, none⟩) s.tasks.length s.tasks.length, .slice (some ⟨b.gl, 0, none⟩) s.tasks.length s.tasks.length, .pointer (some ⟨b.gc, 0, none⟩), .pointer (some ⟨b.gp, 0, none⟩), ev]
structure RAt (b : RB) (B : Nat) (w : World) (s : TSet) (k : KS) (ev : Value) (os : List (Option Nat)) : Prop where
  box : Blk w b.gk (rcs b s k.t k.ran k.last ev) 90
  trow : OwnL encT w 0 34 9 b.vt b.ps
  regs : ∀ p ∈ b.ps, RowI w 0 p.2 p.1.regs
  eq : b.ps.map (·.1) = s.tasks
  pol : Pol19 w b.gp b.va b.vb (polL s k)
  cache : CacheR w b.gc k.own
  tab : TabAt 95 w b.gt b.gs k.tab
  jrow : RowBk encJp w b.gj 116 os
  hrow : RowBk encH w b.gh 32 k.had
  lrow : RowBk encI w b.gl 2 k.load
  jl : os.length = s.tasks.length
  hl : k.had.length = s.tasks.length
  ll : k.load.length = s.tasks.length
  jobs : ∀ i, i < s.tasks.length → ∀ g, opAt os i = some g → JobR w b.base g (k.jobs.getD i Jb.zero)
  sep : ∀ i j, i < s.tasks.length → j < s.tasks.length → i ≠ j → ∀ g, opAt os i = some g → opAt os j ≠ some g
  evs : OwnL encEv w B 60 4 ev k.evs
  low : b.gl < b.base ∧ ∀ q, b.vb.ownBlock = some q → q < b.base
  bas : b.base ≤ w.heap.size
  apR : ∀ p ∈ b.ps, ∀ q, p.2.ownBlock = some q → q ≠ b.gl ∧ b.vb.ownBlock ≠ some q
  apA : ∀ q, b.va.ownBlock = some q → q ≠ b.gl
  apB : b.vb.ownBlock ≠ some b.gl
/-- what belongs to it -/
def footR (b : RB) (os : List (Option Nat)) (ev : Value) (q : Nat) : Prop := q = b.gk ∨ q = b.gs ∨ q = b.gc ∨ q = b.gj ∨ q = b.gh ∨ q = b.gl ∨ b.vb.ownBlock = some q ∨ ev.ownBlock = some q ∨ ∃ i, opAt os i = some q
section
variable {b : RB} {B : Nat} {w w' : World} {s : TSet} {k : KS} {ev : Value} {os : List (Option Nat)} {F : Nat → Prop} {ts : List TypeId}
/-- of the rows of numbers only these two are changed -/
def FQ (b : RB) (w : World) (F : Nat → Prop) : Prop := ∀ q cs, F q → Blk w q cs 2 → q = b.gl ∨ b.vb.ownBlock = some q
theorem FT.q (hF : FT w F ts) (h : ts.contains 2 = false) : FQ b w F := fun q cs hq hB => absurd hq (hF.no hB h)
theorem RAt.kTrow (h : RAt b B w s k ev os) (hc : Chg F w w') (hF : FT w F ts) (h1 : ts.contains 34 = false) : OwnL encT w' 0 34 9 b.vt b.ps := h.trow.chg hc (hF.own h.trow h1)
theorem RAt.kRegs (h : RAt b B w s k ev os) (hc : Chg F w w') (hQ : FQ b w F) : ∀ p ∈ b.ps, RowI w' 0 p.2 p.1.regs := fun p hp => OwnL.chg (h.regs p hp) hc (fun q hq hf => by
  obtain ⟨cs, hB⟩ := OwnL.block (h.regs p hp) hq
  have ha := h.apR p hp q hq
  rcases hQ q cs hf hB with e | e
  · exact ha.1 e
  · exact ha.2 e)
theorem RAt.kBox (h : RAt b B w s k ev os) (hc : Chg F w w') (hF : FT w F ts) (h1 : ts.contains 90 = false) : Blk w' b.gk (rcs b s k.t k.ran k.last ev) 90 := h.box.chg hc (hF.no h.box h1)
theorem RAt.kPol (h : RAt b B w s k ev os) (hc : Chg F w w') (hF : FT w F ts) (h1 : ts.contains 111 = false) (hQ : FQ b w F) (hb : ∀ q, b.vb.ownBlock = some q → ¬ F q) : Pol19 w' b.gp b.va b.vb (polL s k) :=
  h.pol.chg hc (hF.no h.pol.box h1) (fun q hq hf => by
    obtain ⟨cs, hB⟩ := OwnL.block h.pol.t hq
    rcases hQ q cs hf hB with e | e
    · exact h.apA q hq e
    · exact h.pol.ne q hq e) hb
theorem RAt.kCache (h : RAt b B w s k ev os) (hc : Chg F w w') (hF : FT w F ts) (h1 : ts.contains 86 = false) : CacheR w' b.gc k.own := h.cache.chg hc (hF.no h.cache.box h1)
theorem RAt.kTab (h : RAt b B w s k ev os) (hc : Chg F w w') (hF : FT w F ts) (h1 : ts.contains 95 = false) (h2 : ts.contains 113 = false) : TabAt 95 w' b.gt b.gs k.tab := h.tab.chg hc (hF.no h.tab.box h1) (hF.no h.tab.row h2)
theorem RAt.kJrow (h : RAt b B w s k ev os) (hc : Chg F w w') (hF : FT w F ts) (h1 : ts.contains 116 = false) : RowBk encJp w' b.gj 116 os := h.jrow.chg hc (hF.no h.jrow h1)
theorem RAt.kHrow (h : RAt b B w s k ev os) (hc : Chg F w w') (hF : FT w F ts) (h1 : ts.contains 32 = false) : RowBk encH w' b.gh 32 k.had := h.hrow.chg hc (hF.no h.hrow h1)
theorem JobR.blk {base g : Nat} {j : Jb} (h : JobR w base g j) : ∃ cs, Blk w g cs 133 := by
  obtain ⟨vr, vd, tk, h⟩ := h
  exact ⟨_, h.box⟩
theorem JobR.lower {base base' g : Nat} {j : Jb} (h : JobR w base g j) (hb : base' ≤ base) : JobR w base' g j := by
  obtain ⟨vr, vd, tk, h⟩ := h
  exact ⟨vr, vd, tk, h.box, OwnL.lower h.r hb, OwnL.lower h.d hb⟩
theorem RAt.qJob (h : RAt b B w s k ev os) (hQ : FQ b w F) : ∀ q cs, b.base ≤ q → Blk w q cs 2 → ¬ F q := fun q cs hq hB hf => by
  have hl := h.low
  rcases hQ q cs hf hB with e | e
  · omega
  · have := hl.2 q e; omega
theorem RAt.kJobs (h : RAt b B w s k ev os) (hc : Chg F w w') (hF : FT w F ts) (h1 : ts.contains 133 = false) (hQ : FQ b w F) : ∀ i, i < s.tasks.length → ∀ g, opAt os i = some g → JobR w' b.base g (k.jobs.getD i Jb.zero) := fun i hi g hg => by
  have hJ := h.jobs i hi g hg
  obtain ⟨cs, hB⟩ := hJ.blk
  exact hJ.chg hc (hF.no hB h1) (h.qJob hQ)
theorem RAt.kEvs (h : RAt b B w s k ev os) (hc : Chg F w w') (hF : FT w F ts) (h1 : ts.contains 60 = false) : OwnL encEv w' B 60 4 ev k.evs := h.evs.chg hc (hF.own h.evs h1)
/-- a change of none of the two rows: they stay -/
theorem RAt.kLrow (h : RAt b B w s k ev os) (hc : Chg F w w') (hb : ¬ F b.gl) : RowBk encI w' b.gl 2 k.load := h.lrow.chg hc hb
theorem RAt.noL (h : RAt b B w s k ev os) (hF : FT w F ts) (h1 : ts.contains 2 = false) : ¬ F b.gl := hF.no h.lrow h1
theorem RAt.noB (h : RAt b B w s k ev os) (hF : FT w F ts) (h1 : ts.contains 2 = false) : ∀ q, b.vb.ownBlock = some q → ¬ F q := hF.own h.pol.l h1
theorem RAt.ext (h : RAt b B w s k ev os) (hx : Ext w w') : RAt b B w' s k ev os := by
  have hc : Chg (fun _ => False) w w' := Chg.of_ext hx
  have hF : FT w (fun _ => False) [] := fun _ f => f.elim
  have hQ : FQ b w (fun _ => False) := hF.q rfl
  exact { h with
    box := h.kBox hc hF rfl, trow := h.kTrow hc hF rfl, regs := h.kRegs hc hQ, pol := h.kPol hc hF rfl hQ (h.noB hF rfl), cache := h.kCache hc hF rfl, tab := h.kTab hc hF rfl rfl, jrow := h.kJrow hc hF rfl, hrow := h.kHrow hc hF rfl, lrow := h.kLrow hc (h.noL hF rfl), jobs := h.kJobs hc hF rfl hQ, evs := h.kEvs hc hF rfl, bas := Nat.le_trans h.bas hc.size }
/-- one event more -/
theorem RAt.tell {ev' : Value} (h : RAt b B w s k ev os) {a c d : Int} (hc : Chg (fun q => q = b.gk ∨ ev.ownBlock = some q) w w') (hB : Blk w' b.gk (rcs b s k.t k.ran k.last ev') 90) (hO : OwnL encEv w' B 60 4 ev' (k.evs ++ [⟨k.t, a, c, d⟩])) : RAt b B w' s (k.tell a c d) ev' os := by
  have hF : FT w (fun q => q = b.gk ∨ ev.ownBlock = some q) [90, 60] := fun q hq => by
    rcases hq with rfl | hq
    · exact ⟨_, by simp, _, h.box⟩
    · obtain ⟨cs, hB⟩ := h.evs.block hq
      exact ⟨_, by simp, _, hB⟩
  have hQ : FQ b w _ := hF.q rfl
  exact { h with
    box := hB, trow := h.kTrow hc hF rfl, regs := h.kRegs hc hQ, pol := h.kPol hc hF rfl hQ (h.noB hF rfl), cache := h.kCache hc hF rfl, tab := h.kTab hc hF rfl rfl, jrow := h.kJrow hc hF rfl, hrow := h.kHrow hc hF rfl, lrow := h.kLrow hc (h.noL hF rfl), jobs := h.kJobs hc hF rfl hQ, evs := hO, bas := Nat.le_trans h.bas hc.size }
/-- the kernel's own block is written -/
theorem RAt.setBox (h : RAt b B w s k ev os) {t ran last : Int} {ev' : Value} {evs : List Ev} (hc : Chg (fun q => q = b.gk) w w') (hB : Blk w' b.gk (rcs b s t ran last ev') 90) (hO : OwnL encEv w' B 60 4 ev' evs) : RAt b B w' s { k with t := t, ran := ran, last := last, evs := evs } ev' os := by
  have hF := FT.one (w := w) h.box
  have hQ : FQ b w _ := hF.q rfl
  exact { h with
    box := hB, trow := h.kTrow hc hF rfl, regs := h.kRegs hc hQ, pol := h.kPol hc hF rfl hQ (h.noB hF rfl), cache := h.kCache hc hF rfl, tab := h.kTab hc hF rfl rfl, jrow := h.kJrow hc hF rfl, hrow := h.kHrow hc hF rfl, lrow := h.kLrow hc (h.noL hF rfl), jobs := h.kJobs hc hF rfl hQ, evs := hO, bas := Nat.le_trans h.bas hc.size }
theorem RAt.setTab (h : RAt b B w s k ev os) {tab : List St} (hc : Chg (fun q => q = b.gs) w w') (hT : TabAt 95 w' b.gt b.gs tab) : RAt b B w' s { k with tab := tab } ev os := by
  have hF := FT.one (w := w) (show Blk w b.gs _ 113 from h.tab.row)
  have hQ : FQ b w _ := hF.q rfl
  exact { h with
    box := h.kBox hc hF rfl, trow := h.kTrow hc hF rfl, regs := h.kRegs hc hQ, pol := h.kPol hc hF rfl hQ (h.noB hF rfl), cache := h.kCache hc hF rfl, tab := hT, jrow := h.kJrow hc hF rfl, hrow := h.kHrow hc hF rfl, lrow := h.kLrow hc (h.noL hF rfl), jobs := h.kJobs hc hF rfl hQ, evs := h.kEvs hc hF rfl, bas := Nat.le_trans h.bas hc.size }
theorem RAt.setCache (h : RAt b B w s k ev os) {own : List Int} (hc : Chg (fun q => q = b.gc) w w') (hT : CacheR w' b.gc own) : RAt b B w' s { k with own := own } ev os := by
  have hF := FT.one (w := w) h.cache.box
  have hQ : FQ b w _ := hF.q rfl
  exact { h with
    box := h.kBox hc hF rfl, trow := h.kTrow hc hF rfl, regs := h.kRegs hc hQ, pol := h.kPol hc hF rfl hQ (h.noB hF rfl), cache := hT, tab := h.kTab hc hF rfl rfl, jrow := h.kJrow hc hF rfl, hrow := h.kHrow hc hF rfl, lrow := h.kLrow hc (h.noL hF rfl), jobs := h.kJobs hc hF rfl hQ, evs := h.kEvs hc hF rfl, bas := Nat.le_trans h.bas hc.size }
theorem RAt.setHad (h : RAt b B w s k ev os) {had : List Nat} (hc : Chg (fun q => q = b.gh) w w') (hT : RowBk encH w' b.gh 32 had) (hl : had.length = s.tasks.length) : RAt b B w' s { k with had := had } ev os := by
  have hF := FT.one (w := w) (show Blk w b.gh _ 32 from h.hrow)
  have hQ : FQ b w _ := hF.q rfl
  exact { h with
    box := h.kBox hc hF rfl, trow := h.kTrow hc hF rfl, regs := h.kRegs hc hQ, pol := h.kPol hc hF rfl hQ (h.noB hF rfl), cache := h.kCache hc hF rfl, tab := h.kTab hc hF rfl rfl, jrow := h.kJrow hc hF rfl, hrow := hT, hl := hl, lrow := h.kLrow hc (h.noL hF rfl), jobs := h.kJobs hc hF rfl hQ, evs := h.kEvs hc hF rfl, bas := Nat.le_trans h.bas hc.size }
theorem RAt.setLoad (h : RAt b B w s k ev os) {load : List Int} (hc : Chg (fun q => q = b.gl) w w') (hT : RowBk encI w' b.gl 2 load) (hl : load.length = s.tasks.length) : RAt b B w' s { k with load := load } ev os := by
  have hF := FT.one (w := w) (show Blk w b.gl _ 2 from h.lrow)
  have hQ : FQ b w (fun q => q = b.gl) := fun q cs hq _ => .inl hq
  exact { h with
    box := h.kBox hc hF rfl, trow := h.kTrow hc hF rfl, regs := h.kRegs hc hQ, pol := h.kPol hc hF rfl hQ (fun q hq e => h.apB (by rw [← e]; exact hq)), cache := h.kCache hc hF rfl, tab := h.kTab hc hF rfl rfl, jrow := h.kJrow hc hF rfl, hrow := h.kHrow hc hF rfl, lrow := hT, ll := hl, jobs := h.kJobs hc hF rfl hQ, evs := h.kEvs hc hF rfl, bas := Nat.le_trans h.bas hc.size }
theorem RAt.setPol (h : RAt b B w s k ev os) {pol : List Int} (hc : Chg (fun q => b.vb.ownBlock = some q) w w') (hT : Pol19 w' b.gp b.va b.vb (polL s { k with pol := pol })) : RAt b B w' s { k with pol := pol } ev os := by
  have hF : FT w (fun q => b.vb.ownBlock = some q) [2] := fun q hq => by
    obtain ⟨cs, hB⟩ := OwnL.block h.pol.l hq
    exact ⟨_, by simp, _, hB⟩
  have hQ : FQ b w (fun q => b.vb.ownBlock = some q) := fun q cs hq _ => .inr hq
  exact { h with
    box := h.kBox hc hF rfl, trow := h.kTrow hc hF rfl, regs := h.kRegs hc hQ, pol := hT, cache := h.kCache hc hF rfl, tab := h.kTab hc hF rfl rfl, jrow := h.kJrow hc hF rfl, hrow := h.kHrow hc hF rfl, lrow := h.kLrow hc h.apB, jobs := h.kJobs hc hF rfl hQ, evs := h.kEvs hc hF rfl, bas := Nat.le_trans h.bas hc.size }
/-- a job goes on -/
theorem RAt.setJob (h : RAt b B w s k ev os) {m g : Nat} {x : Jb} (hm : m < s.tasks.length) (hj : k.jobs.length = s.tasks.length) (hg : opAt os m = some g) (hc : Chg (fun q => q = g) w w') (hT : JobR w' b.base g x) : RAt b B w' s { k with jobs := k.jobs.set m x } ev os := by
  obtain ⟨cs, hB⟩ := (h.jobs m hm g hg).blk
  have hF := FT.one hB
  have hQ : FQ b w _ := hF.q rfl
  exact { h with
    box := h.kBox hc hF rfl, trow := h.kTrow hc hF rfl, regs := h.kRegs hc hQ, pol := h.kPol hc hF rfl hQ (h.noB hF rfl), cache := h.kCache hc hF rfl, tab := h.kTab hc hF rfl rfl, jrow := h.kJrow hc hF rfl, hrow := h.kHrow hc hF rfl, lrow := h.kLrow hc (h.noL hF rfl)
    jobs := fun i hi g' hg' => by
      dsimp only
      by_cases e : m = i
      · subst e
        rw [hg] at hg'
        obtain rfl := Option.some.inj hg'
        rw [getD_set (by omega), if_pos rfl]
        exact hT
      · rw [getD_set (by omega), if_neg e]
        refine (h.jobs i hi g' hg').chg hc (fun e' => ?_) (h.qJob hQ)
        subst e'
        exact h.sep m i hm hi e g' hg hg'
    evs := h.kEvs hc hF rfl, bas := Nat.le_trans h.bas hc.size }
/-- a new job -/
theorem RAt.newJob (h : RAt b B w s k ev os) {m g : Nat} {x : Jb} (hm : m < s.tasks.length) (hj : k.jobs.length = s.tasks.length) (hc : Chg (fun q => q = b.gj) w w') (hR : RowBk encJp w' b.gj 116 (os.set m (some g))) (hT : JobR w' b.base g x) (hn : ∀ i, i < s.tasks.length → opAt os i ≠ some g) : RAt b B w' s { k with jobs := k.jobs.set m x } ev (os.set m (some g)) := by
  have hF := FT.one (w := w) (show Blk w b.gj _ 116 from h.jrow)
  have hQ : FQ b w _ := hF.q rfl
  have hjl := h.jl
  have ho : ∀ i, opAt (os.set m (some g)) i = if m = i then some g else opAt os i := fun i => by
    unfold opAt
    by_cases e : m = i
    · subst e; rw [getD_set (by omega)]
    · rw [if_neg e]; simp [List.getD, List.getElem?_set_ne e]
  exact { h with
    box := h.kBox hc hF rfl, trow := h.kTrow hc hF rfl, regs := h.kRegs hc hQ, pol := h.kPol hc hF rfl hQ (h.noB hF rfl), cache := h.kCache hc hF rfl, tab := h.kTab hc hF rfl rfl, jrow := hR, jl := by rw [List.length_set]; exact hjl, hrow := h.kHrow hc hF rfl, lrow := h.kLrow hc (h.noL hF rfl)
    jobs := fun i hi g' hg' => by
      dsimp only
      rw [ho] at hg'
      by_cases e : m = i
      · subst e
        rw [if_pos rfl] at hg'
        obtain rfl := Option.some.inj hg'
        rw [getD_set (by omega), if_pos rfl]
        exact hT
      · rw [if_neg e] at hg'
        rw [getD_set (by omega), if_neg e]
        exact h.kJobs hc hF rfl hQ i hi g' hg'
    sep := fun i j hi hj hne g' hg' => by
      rw [ho] at hg' ⊢
      by_cases e : m = i
      · rw [if_pos e] at hg'
        obtain rfl := Option.some.inj hg'
        rw [if_neg (by omega)]
        exact hn j hj
      · rw [if_neg e] at hg'
        by_cases e2 : m = j
        · rw [if_pos e2]
          intro e3
          obtain rfl := Option.some.inj e3
          exact hn i hi hg'
        · rw [if_neg e2]
          exact h.sep i j hi hj hne g' hg'
    evs := h.kEvs hc hF rfl, bas := Nat.le_trans h.bas hc.size }
end
/-- from one state to the next -/
structure StpR (b : RB) (B : Nat) (s : TSet) (w : World) (ev : Value) (os : List (Option Nat)) (w' : World) (k' : KS) (ev' : Value) (os' : List (Option Nat)) : Prop where
  at' : RAt b B w' s k' ev' os'
  chg : Chg (footR b os ev) w w'
  foot : ∀ q, footR b os' ev' q → footR b os ev q ∨ w.heap.size ≤ q
section
variable {b : RB} {B : Nat} {s : TSet} {w w1 w2 : World} {k k1 k2 : KS} {ev ev1 ev2 : Value} {os os1 os2 : List (Option Nat)}
theorem StpR.refl (h : RAt b B w s k ev os) : StpR b B s w ev os w k ev os := ⟨h, Chg.refl _ _, fun q hq => .inl hq⟩
theorem StpR.trans (h : StpR b B s w ev os w1 k1 ev1 os1) (h2 : StpR b B s w1 ev1 os1 w2 k2 ev2 os2) : StpR b B s w ev os w2 k2 ev2 os2 := by
  refine ⟨h2.at', h.chg.andThen h2.chg (fun q hq hf => ?_), fun q hq => ?_⟩
  · rcases h.foot q hf with hf | hf
    · exact hf
    · omega
  · have := h.chg.size
    rcases h2.foot q hq with hf | hf
    · exact h.foot q hf
    · exact .inr (by omega)
theorem StpR.state (h : StpR b B s w ev os w1 k1 ev1 os1) (e : k1 = k2) : StpR b B s w ev os w1 k2 ev1 os1 := e ▸ h
theorem StpR.ext (h : StpR b B s w ev os w1 k1 ev1 os1) (hx : Ext w1 w2) : StpR b B s w ev os w2 k1 ev1 os1 := ⟨h.at'.ext hx, h.chg.ext hx, h.foot⟩
end
end Go.Proofs.Ytlaflbepidkmnaa
/- The document's kernel: events; over; late. -/
namespace Go.Proofs.Ytlaflbepidkmnaa
open Go.RowKit
attribute [local go_sem] setCell_twice Ext.alloc Ext.drew
set_option linter.unusedSimpArgs false
set_option linter.unusedVariables false
set_option maxRecDepth 100000
set_option maxHeartbeats 1600000
attribute [local irreducible] Calls

/-- the kernel's own block -/
def RBox (gk : Nat) (cs : Array Value) (w : World) : Prop := Blk w gk cs 90
theorem RBox.ext {gk : Nat} {cs : Array Value} {w w' : World} (h : RBox gk cs w) (hx : Ext w w') : RBox gk cs w' := Blk.ext h hx
theorem tell_r25 (B gk : Nat) (c0 c1 c3 c4 c5 c6 c7 c8 c9 c10 ev : Value) (tick kind task n : Int) (evs : List Ev) (w : World) (hB : Blk w gk #[c0, c1, .int .i64 tick, c3, c4, c5, c6, c7, c8, c9, c10, ev] 90) (hO : OwnL encEv w B 60 4 ev evs) (hl : evs.length ≤ 1000) (hBw : B ≤ w.heap.size) :
    Calls Try.prog 40 #[.pointer (some ⟨gk, 0, none⟩), .int .i64 kind, .int .i64 task, .int .i64 n] w fun e w' => e = .returned (.tuple #[]) ∧
      (∃ ev', Blk w' gk #[c0, c1, .int .i64 tick, c3, c4, c5, c6, c7, c8, c9, c10, ev'] 90 ∧ OwnL encEv w' B 60 4 ev' (evs ++ [⟨tick, kind, task, n⟩]) ∧ ∀ q, ev'.ownBlock = some q → ev.ownBlock = some q ∨ w.heap.size ≤ q) ∧ Chg (fun q => q = gk ∨ ev.ownBlock = some q) w w' := by
  obtain ⟨A, c, rfl, hcc, hcm⟩ := OwnL.form hO
  have hc : ∀ w', RBox gk #[c0, c1, .int .i64 tick, c3, c4, c5, c6, c7, c8, c9, c10, .slice A evs.length c] w' → ∀ j, w'.cell? ⟨gk, j, none⟩ = #[c0, c1, .int .i64 tick, c3, c4, c5, c6, c7, c8, c9, c10, .slice A evs.length c][j]? := fun w' h => Blk.cell h
  have hK0 : RBox gk #[c0, c1, .int .i64 tick, c3, c4, c5, c6, c7, c8, c9, c10, .slice A evs.length c] w := hB
  go_enter Try.func40, Try.ntmps40
  go_upto_region 0 with (fail)
  refine wp_region_mixZ (T := [13, 14, 17]) (z := 17) (S := RBox gk #[c0, c1, .int .i64 tick, c3, c4, c5, c6, c7, c8, c9, c10, .slice A evs.length c]) (W := w) (fun _ _ h hx => h.ext hx) (by kernel_rfl) (by kernel_rfl) (by kernel_rfl) (Ext.refl w).drew hK0 (fun _ _ h => h) (fun K hK => ?_)
  (repeat (first | (refine hX_skip ?_ ?_; (· rfl)) | (apply hX_and; (· rfl); (· rfl); (· rfl); (· rfl); (· rfl); simp only [Act.put, List.setIfInBounds_toArray, List.set_cons_zero, List.set_cons_succ]) | (apply hX_or; (· rfl); (· rfl); (· rfl); (· rfl); (· rfl); simp only [Act.put, List.setIfInBounds_toArray, List.set_cons_zero, List.set_cons_succ]) | (apply hX_off; (· rfl); (· rfl); (· rfl); simp only [Act.put, List.setIfInBounds_toArray, List.set_cons_zero, List.set_cons_succ]) | (apply hX_val; (· rfl); (· intro w hS; go_simp; with_reducible rfl); (· rfl); simp only [Act.put, List.setIfInBounds_toArray, List.set_cons_zero, List.set_cons_succ]) | (apply hX_call; (· rfl); (· rfl); (· intro w hS; go_simp; exact ⟨rfl, rfl⟩); (· intro w hS; fail); simp only [Act.put, List.setIfInBounds_toArray, List.set_cons_zero, List.set_cons_succ]) | (apply hX_if; (· rfl); (· rfl); (· rfl); (· intro hif w hS; go_simp; with_reducible rfl); simp only [Act.put, List.setIfInBounds_toArray, List.set_cons_zero, List.set_cons_succ]) | (apply hX_ifcall; (· rfl); (· rfl); (· rfl); (· intro hif w hS; go_simp; exact ⟨rfl, rfl⟩); (· intro hif w hS; fail); simp only [Act.put, List.setIfInBounds_toArray, List.set_cons_zero, List.set_cons_succ]))); refine hX_nil ?_
  refine hK _ ?_
  clear hK K
  refine wpZ_want (i := 13) (by kernel_rfl) rfl (by simp [Region.wanted, yielded]) ?_
  intro w1 hx1 K hK
  go_simp
  have hE1 := hx1.alloc (.cells #[.int .i64 tick, .int .i64 kind, .int .i64 task, .int .i64 n] 60)
  have hN1 := Blk.new w1 #[.int .i64 tick, .int .i64 kind, .int .i64 task, .int .i64 n] 60
  refine hK _ _ (hK0.ext hE1) ?_
  clear hK K hx1
  generalize w1.heap.size = g1 at hN1 ⊢
  generalize w1.alloc _ = W1 at hN1 hE1 ⊢
  refine wpZ_want (i := 14) (by kernel_rfl) rfl (by simp [Region.wanted, yielded]) ?_
  intro w2 hx2 K hK
  refine wp_push _ _ 28 rfl B 60 Try.underlying28 infoEv rfl (by decide) (by decide) encEv evs _ rfl (OwnL.below hO (hE1.trans hx2).below) ⟨tick, kind, task, n⟩ g1 #[.int .i64 tick, .int .i64 kind, .int .i64 task, .int .i64 n] 60 rfl (hN1.ext hx2) rfl rfl (encEv_one _) (by omega) (by have := (hE1.trans hx2).size; omega) ?_
  intro v3 w3 hown3 hg3 hloc3 _
  have hE2 := hE1.trans hx2
  have hO2 := OwnL.below hO hE2.below
  have hB3 : Blk w3 gk #[c0, c1, .int .i64 tick, c3, c4, c5, c6, c7, c8, c9, c10, .slice A evs.length c] 90 := (hB.ext hE2).grown hg3 (own_ne_blk hO2 (hB.ext hE2) (by decide))
  have hC3 : Chg (fun q => q = gk ∨ (Value.slice A evs.length c).ownBlock = some q) w w3 := (Chg.of_ext hE2).grown hg3 (fun k e _ => .inr e)
  obtain ⟨A3, c3', rfl⟩ := own_slice hown3
  have hL3 : ∀ q, (Value.slice A3 (evs.length + 1) c3').ownBlock = some q → (Value.slice A evs.length c).ownBlock = some q ∨ w.heap.size ≤ q := fun q hq => by
    rw [List.length_append, List.length_singleton] at hloc3
    rcases hloc3 with h | h
    · exact .inl (h.symm.trans hq)
    · rw [h] at hq
      have h1 := Option.some.inj hq
      have h2 := hE2.size
      exact .inr (by omega)
  refine hK _ _ hB3 ?_
  clear hK K hx2 hN1 hE1 hE2 hO2 hg3 hloc3
  refine wpZ_last (by kernel_rfl) rfl (by simp [Region.wanted, yielded]) ?_
  intro w4 hx4 K hK
  have hB4 := hB3.ext hx4
  have hc4 := hB4.cell
  have hf4 := hB4.free
  go_simp
  have hB5 := hB4.set 11 (.slice A3 (evs.length + 1) c3')
  simp only [List.setIfInBounds_toArray, List.set_cons_zero, List.set_cons_succ] at hB5
  have hown4 := OwnL.below hown3 hx4.below
  have hO5 := OwnL.set hown4 (a := ⟨gk, 11, none⟩) (own_ne_blk hown4 hB4 (by decide)) (.slice A3 (evs.length + 1) c3')
  rw [List.length_append, List.length_singleton] at hO5
  have hC5 := (hC3.ext hx4).set (g := gk) (i := 11) (.inl (.inl rfl)) (.slice A3 (evs.length + 1) c3')
  refine hK _ _ ?_
  clear hK K hB4 hc4 hf4 hown4 hown3 hx4 hB3 hC3
  generalize w4.setCell _ _ = W5 at hB5 hO5 hC5 ⊢
  refine wpZ_done (by kernel_rfl) (fun W hX => ?_) _
  have hB6 := hB5.ext hX
  have hO6 := OwnL.below hO5 hX.below
  have hC6 := hC5.ext hX
  clear hB5 hO5 hC5 hX
  go_wp2_with (fail)
  refine bodyPost_end (v := .tuple #[]) (results_none Try.results40 _ _ _) rfl ⟨rfl, ⟨_, hB6, hO6, hL3⟩, hC6⟩

/-- an event -/
theorem tellR (b : RB) (B : Nat) (s : TSet) (k : KS) (ev : Value) (os : List (Option Nat)) (kind task n : Int) (w : World) (h : RAt b B w s k ev os) (hl : k.evs.length ≤ 1000) (hB : B ≤ w.heap.size) :
    Calls Try.prog 40 #[.pointer (some ⟨b.gk, 0, none⟩), .int .i64 kind, .int .i64 task, .int .i64 n] w fun e w' => e = .returned (.tuple #[]) ∧ ∃ ev', StpR b B s w ev os w' (k.tell kind task n) ev' os := by
  refine (tell_r25 B b.gk _ _ _ _ _ _ _ _ _ _ ev k.t kind task n k.evs w h.box h.evs hl hB).mono ?_
  rintro e w' ⟨rfl, ⟨ev', hB', hO, hl'⟩, hc⟩
  refine ⟨rfl, ev', h.tell hc hB' hO, hc.to (fun i _ hi => ?_), fun q hq => ?_⟩
  · rcases hi with rfl | hi
    · exact .inl rfl
    · exact .inr (.inr (.inr (.inr (.inr (.inr (.inr (.inl hi)))))))
  · rcases hq with h | h | h | h | h | h | h | h | h
    · exact .inl (.inl h)
    · exact .inl (.inr (.inl h))
    · exact .inl (.inr (.inr (.inl h)))
    · exact .inl (.inr (.inr (.inr (.inl h))))
    · exact .inl (.inr (.inr (.inr (.inr (.inl h)))))
    · exact .inl (.inr (.inr (.inr (.inr (.inr (.inl h))))))
    · exact .inl (.inr (.inr (.inr (.inr (.inr (.inr (.inl h)))))))
    · rcases hl' q h with h | h
      · exact .inl (.inr (.inr (.inr (.inr (.inr (.inr (.inr (.inl h))))))))
      · exact .inr h
    · exact .inl (.inr (.inr (.inr (.inr (.inr (.inr (.inr (.inr h))))))))
section
variable {b : RB} {B : Nat} {w w' : World} {s : TSet} {k : KS} {ev : Value} {os : List (Option Nat)}
theorem RAt.cells (h : RAt b B w s k ev os) : ∀ w', Ext w w' → ∀ j, w'.cell? ⟨b.gk, j, none⟩ = (rcs b s k.t k.ran k.last ev)[j]? := fun w' hx => (h.box.ext hx).cell
theorem RAt.tks (h : RAt b B w s k ev os) : Tasks w b.vt s.tasks := by rw [← h.eq]; exact (TRow.mk h.trow h.regs).tasks
theorem RAt.store (h : RAt b B w s k ev os) (hB : B ≤ w.heap.size) (i : Nat) (u : Value) {t ran last : Int} {ev' : Value} {evs : List Ev} (he : (rcs b s k.t k.ran k.last ev).setIfInBounds i u = rcs b s t ran last ev')
    (hO : OwnL encEv (w.setCell ⟨b.gk, i, none⟩ u) B 60 4 ev' evs) (hf : ∀ q, ev'.ownBlock = some q → ev.ownBlock = some q) :
    StpR b B s w ev os (w.setCell ⟨b.gk, i, none⟩ u) { k with t := t, ran := ran, last := last, evs := evs } ev' os := by
  have hC : Chg (fun q => q = b.gk) w (w.setCell ⟨b.gk, i, none⟩ u) := (Chg.refl (fun q => q = b.gk) w).set (g := b.gk) (i := i) (.inl rfl) u
  refine ⟨h.setBox hC (he ▸ h.box.set i u) hO, hC.to (fun q _ hq => .inl hq), fun q hq => ?_⟩
  rcases hq with h | h | h | h | h | h | h | h | h
  · exact .inl (.inl h)
  · exact .inl (.inr (.inl h))
  · exact .inl (.inr (.inr (.inl h)))
  · exact .inl (.inr (.inr (.inr (.inl h))))
  · exact .inl (.inr (.inr (.inr (.inr (.inl h)))))
  · exact .inl (.inr (.inr (.inr (.inr (.inr (.inl h))))))
  · exact .inl (.inr (.inr (.inr (.inr (.inr (.inr (.inl h)))))))
  · exact .inl (.inr (.inr (.inr (.inr (.inr (.inr (.inr (.inl (hf q h)))))))))
  · exact .inl (.inr (.inr (.inr (.inr (.inr (.inr (.inr (.inr h))))))))
theorem RAt.evSet (h : RAt b B w s k ev os) (i : Nat) (u : Value) : OwnL encEv (w.setCell ⟨b.gk, i, none⟩ u) B 60 4 ev k.evs := OwnL.set h.evs (a := ⟨b.gk, i, none⟩) (own_ne_blk h.evs h.box (by decide)) u
theorem RAt.tabS (h : RAt b B w s k ev os) {tab : List St} (hc : Chg (fun q => q = b.gs) w w') (hT : TabAt 95 w' b.gt b.gs tab) : StpR b B s w ev os w' { k with tab := tab } ev os :=
  ⟨h.setTab hc hT, hc.to (fun q _ hq => .inr (.inl hq)), fun q hq => .inl hq⟩
end
/-- a job's end -/
def overK (k : KS) (i : Nat) (how took : Int) : KS :=
  if how = 2 then { k.tell 8 i took with tab := k.tab.set i St.zero, last := -1 } else if how = 3 then { k.tell 9 i took with tab := k.tab.set i St.zero, last := -1 } else k
theorem over_r25 (b : RB) (B : Nat) (s : TSet) (k : KS) (ev : Value) (os : List (Option Nat)) (i : Nat) (how took : Int) (w : World) (h : RAt b B w s k ev os) (hi : i < s.tasks.length) (hk : k.tab.length = s.tasks.length) (hp : (stAt k.tab i).pend = true) (hl : k.evs.length ≤ 900) (hB : B ≤ w.heap.size) :
    Calls Try.prog 67 #[.pointer (some ⟨b.gk, 0, none⟩), .int .i64 i, .int .i64 how, .int .i64 took] w fun e w' => e = .returned (.tuple #[]) ∧ ∃ ev', StpR b B s w ev os w' (overK k i how took) ev' os := by
  have HT := Lib.hid fun kind => tellR b B s k ev os kind i took w h (by omega) hB
  have hmod : ∀ f, modT k.tab i f = k.tab.set i (f (stAt k.tab i)) := fun f => modT_on f hp
  have htl : i < k.tab.length := by omega
  have HM := Lib.hid hmod
  have H := Lib.hid h
  clear h hmod hp hk
  have key : ∀ (kind : Int) (k1 : KS), k1 = k.tell kind i took → ∀ (w1 : World) (ev1 : Value), Hid (StpR b B s w ev os w1 k1 ev1 os) → Hid (Calls Try.prog 79 #[.pointer (some ⟨b.gt, 0, none⟩), .int .i64 i] w1 fun e w' => e = .returned (.bool (stAt k.tab i).pend) ∧ StpR b B s w1 ev1 os w' { k1 with tab := k.tab.set i St.zero } ev1 os) := by
    rintro kind k1 rfl w1 ev1 hS
    refine Lib.hid ((drop_r21 b.gt b.gs k.tab i w1 hS.out.at'.tab htl).mono ?_)
    rintro e w2 ⟨rfl, hT2, hC2⟩
    rw [HM.out] at hT2
    exact ⟨rfl, hS.out.at'.tabS hC2 hT2⟩
  by_cases h2 : how = 2
  · subst h2
    have HE := Lib.hid (show overK k i 2 took = { k.tell 8 i took with tab := k.tab.set i St.zero, last := -1 } from rfl)
    go_enter Try.func67, Try.ntmps67
    go_wp2_with (fail)
    refine (HT.out 8).mono ?_
    rintro e w1 ⟨rfl, ev1, hS1⟩
    have hc1 := hS1.at'.cells w1 (Ext.refl w1)
    unfold rcs at hc1
    have HS1 := Lib.hid hS1
    have HD := key 8 _ rfl w1 ev1 HS1
    clear hS1
    go_wp2_with (fail)
    refine HD.out.mono ?_
    rintro e w2 ⟨rfl, hS2⟩
    have hK2 := hS2.at'
    have hc2 := hK2.cells w2 (Ext.refl w2)
    have hf2 := hK2.box.free
    unfold rcs at hc2
    have hB2 : B ≤ w2.heap.size := by have := hS2.chg.size; have := HS1.out.chg.size; omega
    have hS3 := hK2.store hB2 4 (.int .i64 (-1)) (last := -1) rfl (hK2.evSet 4 _) (fun _ h => h)
    have HS := Lib.hid ((HS1.out.trans hS2).trans hS3)
    clear hS2 hK2 hS3 hc1
    go_wp2_with (fail)
    exact bodyPost_end (v := .tuple #[]) (results_none Try.results67 _ _ _) rfl ⟨rfl, ev1, HS.out.state HE.out.symm⟩
  · by_cases h3 : how = 3
    · subst h3
      have HE := Lib.hid (show overK k i 3 took = { k.tell 9 i took with tab := k.tab.set i St.zero, last := -1 } from rfl)
      clear h2
      go_enter Try.func67, Try.ntmps67
      go_wp2_with (fail)
      refine (HT.out 9).mono ?_
      rintro e w1 ⟨rfl, ev1, hS1⟩
      have hc1 := hS1.at'.cells w1 (Ext.refl w1)
      unfold rcs at hc1
      have HS1 := Lib.hid hS1
      have HD := key 9 _ rfl w1 ev1 HS1
      clear hS1
      go_wp2_with (fail)
      refine HD.out.mono ?_
      rintro e w2 ⟨rfl, hS2⟩
      have hK2 := hS2.at'
      have hc2 := hK2.cells w2 (Ext.refl w2)
      have hf2 := hK2.box.free
      unfold rcs at hc2
      have hB2 : B ≤ w2.heap.size := by have := hS2.chg.size; have := HS1.out.chg.size; omega
      have hS3 := hK2.store hB2 4 (.int .i64 (-1)) (last := -1) rfl (hK2.evSet 4 _) (fun _ h => h)
      have HS := Lib.hid ((HS1.out.trans hS2).trans hS3)
      clear hS2 hK2 hS3 hc1
      go_wp2_with (fail)
      exact bodyPost_end (v := .tuple #[]) (results_none Try.results67 _ _ _) rfl ⟨rfl, ev1, HS.out.state HE.out.symm⟩
    · have HE := Lib.hid (show overK k i how took = k by unfold overK; rw [if_neg h2, if_neg h3])
      have q2 : (how == 2) = false := by simpa using h2
      have q3 : (how == 3) = false := by simpa using h3
      clear h2 h3
      go_enter Try.func67, Try.ntmps67
      go_wp2_with (fail)
      exact bodyPost_ret (v := .tuple #[]) (results_none Try.results67 _ _ _) rfl ⟨rfl, ev, (StpR.refl H.out).state HE.out.symm⟩
theorem late_r25 (b : RB) (B : Nat) (s : TSet) (k : KS) (ev : Value) (os : List (Option Nat)) (w : World) (hs : KH s) (h : RAt b B w s k ev os) (hk : k.tab.length = s.tasks.length)
    (ha : ∀ i, i < s.tasks.length → (stAt k.tab i).pend = true → 0 ≤ (stAt k.tab i).arr ∧ (stAt k.tab i).arr ≤ k.t)
    (ht : k.t ≤ 1099511627776) (hl : k.evs.length ≤ 100) (hB : B ≤ w.heap.size) :
    Calls Try.prog 37 #[.pointer (some ⟨b.gk, 0, none⟩)] w fun e w' => e = .returned (.tuple #[]) ∧ ∃ ev', StpR b B s w ev os w' (lateK s k) ev' os := by
  obtain ⟨A, c, hvt, hcc, hcm, _⟩ := h.tks
  have hn8 := hs.len.2
  unfold maxLen at hcm
  go_enter Try.func37, Try.ntmps37
  go_wp2_with (fail)
  go_loopw [2] (fun i wr => ∃ (m : Nat) (ev' : Value), m ≤ s.tasks.length ∧ i = .int .i64 m ∧ StpR b B s w ev os wr (lateP s k m) ev' os) (fun i _ => s.tasks.length - (intOf i).toNat)
  case atStart => exact ⟨0, ev, by omega, rfl, StpR.refl h⟩
  case round =>
    obtain ⟨m, ev1, hm, rfl, hS⟩ := hrel
    obtain ⟨e1, e2, e3⟩ := lateP_same s k m
    have hK := hS.at'
    have hbox := hK.cells wr (Ext.refl wr)
    unfold rcs at hbox
    rw [hvt, e2] at hbox
    have hTab := hK.tab
    rw [e1] at hTab
    have htb := hTab.box.cell
    have HTL := Lib.hid hk
    rw [hk] at htb
    by_cases hlt : m < s.tasks.length
    · have hstep := lateP_step s k m
      have hT := hK.tks
      rw [hvt] at hT
      obtain ⟨bt, ot, r, rfl, hat⟩ := hT.at hlt
      have ham := ha m hlt
      have hDm := hs.T m hlt
      rw [tk_at s hlt] at hDm
      have hlB : late1 s (lateP s k m) m = if (stAt k.tab m).pend && decide ((stAt k.tab m).arr + (s.tasks[m]).D = k.t) then (lateP s k m).tell 3 m 0 else lateP s k m := by
        unfold late1 lateB
        rw [e1, e2, tk_at s hlt]
      rw [hlB] at hstep
      have hN := fun w' (hx : Ext wr w') => tellR b B s (lateP s k m) ev1 os 3 m 0 w' (hK.ext hx) (by omega) (by have := hS.chg.size; have := hx.size; omega)
      obtain ⟨y0, y1, y2, y3⟩ := hTab.cells (i := m) (by rw [hk]; exact hlt)
      have x2 := hat.under.2.2.1 wr (Ext.refl wr)
      have hw : (stAt k.tab m).pend = true → IntKind.i64.wrap ((stAt k.tab m).arr + (s.tasks[m]).D) = (stAt k.tab m).arr + (s.tasks[m]).D := fun hq => by
        have := ham hq
        rw [IntKind.wrap_i64]; omega
      have hw2 : (stAt k.tab m).pend = true → wrap64 ((stAt k.tab m).arr + (s.tasks[m]).D) = (stAt k.tab m).arr + (s.tasks[m]).D := fun hq => by
        have := ham hq
        unfold wrap64; omega
      clear hlB hK hTab hat hT y1 y2 e1 e2 e3 ham hDm
      generalize lateP s k m = k1 at *
      generalize (s.tasks[m]).D = D at *
      generalize (stAt k.tab m).pend = q0 at *
      generalize (stAt k.tab m).arr = q3 at *
      have HS := Lib.hid hS
      have HP := Lib.hid hstep
      have HN := Lib.hid hN
      clear hstep hN hS
      cases q0 with
      | false =>
        clear hw hw2
        go_upto_region 3 with (fail)
        go_quiet (fail)
        go_wp2_with (fail)
        exact ⟨⟨m + 1, ev1, hlt, rfl, by rw [HP.out]; exact HS.out.ext ((Ext.refl _).drewN _)⟩, by simp [intOf]; omega⟩
      | true =>
        have hw := hw rfl
        have hw2 := hw2 rfl
        by_cases hd : q3 + D = k.t
        · have hd1 : (q3 + D == k.t) = true := by simp [hd]
          have HE := Lib.hid (show lateP s k (m + 1) = k1.tell 3 m 0 by rw [HP.out, decide_eq_true hd]; rfl)
          clear hd
          go_upto_region 3 with (fail)
          go_quiet (fail)
          go_wp2_with (fail)
          refine (HN.out _ ((Ext.refl wr).drewN _)).mono ?_
          rintro e w1 ⟨rfl, ev2, hS2⟩
          go_wp2_with (fail)
          exact ⟨⟨m + 1, ev2, hlt, rfl, by rw [HE.out]; exact (HS.out.ext ((Ext.refl _).drewN _)).trans hS2⟩, by simp [intOf]; omega⟩
        · have hd1 : (q3 + D == k.t) = false := by simp [hd]
          have HE := Lib.hid (show lateP s k (m + 1) = k1 by rw [HP.out, decide_eq_false hd]; rfl)
          go_upto_region 3 with (fail)
          go_quiet (fail)
          go_wp2_with (fail)
          exact ⟨⟨m + 1, ev1, hlt, rfl, by rw [HE.out]; exact HS.out.ext ((Ext.refl _).drewN _)⟩, by simp [intOf]; omega⟩
    · obtain rfl : m = s.tasks.length := by omega
      have HS := Lib.hid hS
      clear hS hK hTab
      go_wp2_with (fail)
      exact bodyPost_end (v := .tuple #[]) (results_none Try.results37 _ _ _) rfl ⟨rfl, ev1, HS.out⟩
end Go.Proofs.Ytlaflbepidkmnaa
/- The document's kernel: tasks come. -/
namespace Go.Proofs.Ytlaflbepidkmnaa
open Go.RowKit
attribute [local go_sem] setCell_twice Ext.alloc Ext.drew
set_option linter.unusedSimpArgs false
set_option linter.unusedVariables false
set_option maxRecDepth 100000
set_option maxHeartbeats 1600000
attribute [local irreducible] Calls

def footTsR : List TypeId := [90, 113, 86, 116, 32, 2, 60, 133]
section
variable {b : RB} {B : Nat} {s : TSet} {w w1 w2 : World} {k k1 k2 : KS} {ev ev1 ev2 : Value} {os os1 os2 : List (Option Nat)}
theorem RAt.footT (h : RAt b B w s k ev os) : FT w (footR b os ev) footTsR := fun q hq => by
  rcases hq with rfl | rfl | rfl | rfl | rfl | rfl | hq | hq | ⟨i, hq⟩
  · exact ⟨_, by simp [footTsR], _, h.box⟩
  · exact ⟨113, by simp [footTsR], _, h.tab.row⟩
  · exact ⟨_, by simp [footTsR], _, h.cache.box⟩
  · exact ⟨116, by simp [footTsR], _, h.jrow⟩
  · exact ⟨32, by simp [footTsR], _, h.hrow⟩
  · exact ⟨2, by simp [footTsR], _, h.lrow⟩
  · obtain ⟨cs, hB⟩ := OwnL.block h.pol.l hq
    exact ⟨_, by simp [footTsR], _, hB⟩
  · obtain ⟨cs, hB⟩ := h.evs.block hq
    exact ⟨_, by simp [footTsR], _, hB⟩
  · by_cases hi : i < s.tasks.length
    · obtain ⟨cs, hB⟩ := (h.jobs i hi q hq).blk
      exact ⟨_, by simp [footTsR], _, hB⟩
    · have : opAt os i = none := by
        unfold opAt
        simp [List.getD, List.getElem?_eq_none (show os.length ≤ i by have := h.jl; omega)]
      rw [this] at hq
      cases hq
theorem StpR.same {L : Nat → Prop} (h : StpR b B s w ev os w1 k1 ev1 os1) (hL : ∀ q, L q → q < w.heap.size) (hf : ∀ q, footR b os ev q → ¬ L q) : Same L w w1 := fun q hq => h.chg.block q (hL q hq) (fun f => hf q f hq)
theorem StpR.low {L : Nat → Prop} (h : StpR b B s w ev os w1 k1 ev1 os1) (hL : ∀ q, L q → q < w.heap.size) (hf : ∀ q, footR b os ev q → ¬ L q) : ∀ q, footR b os1 ev1 q → ¬ L q := fun q hq hl => by
  rcases h.foot q hq with h1 | h1
  · exact hf q h1 hl
  · have := hL q hl; omega
end
/-- a task's demands, wherever what L tells of is as it was -/
def DemL (L : Nat → Prop) (w0 w : World) (b o : Nat) (xs : List Int) : Prop := ∃ r, w.cell? ⟨b, o, none⟩ = some r ∧ ∀ w2, Same L w0 w2 → Ints w2 r xs
/-- each pending task has a job -/
def HasR (s : TSet) (k : KS) (os : List (Option Nat)) : Prop := ∀ i, i < s.tasks.length → (stAt k.tab i).pend = true → ∃ g, opAt os i = some g
def KLen (s : TSet) (k : KS) : Prop := k.jobs.length = s.tasks.length ∧ k.pol.length = s.tasks.length ∧ k.tab.length = s.tasks.length
def arrP (s : TSet) (x : Inp) (k : KS) (m : Nat) : KS := (List.range m).foldl (arrive1 s x) k
theorem arrP_step (s : TSet) (x : Inp) (k : KS) (m : Nat) : arrP s x k (m + 1) = arrive1 s x (arrP s x k m) m := by
  unfold arrP
  rw [List.range_succ, List.foldl_append]
  rfl
theorem arrive1_keep {s : TSet} {x : Inp} {k : KS} (h : KLen s k) (i : Nat) : (arrive1 s x k i).t = k.t ∧ KLen s (arrive1 s x k i) ∧ (arrive1 s x k i).evs.length ≤ k.evs.length + 1 := by
  unfold arrive1 admitK KS.tell
  unfold KLen at *
  split
  · exact ⟨rfl, h, by omega⟩
  · split
    · exact ⟨rfl, h, by simp⟩
    · split
      · exact ⟨rfl, h, by simp⟩
      · exact ⟨rfl, by simpa using h, by simp⟩
theorem arrP_keep {s : TSet} {x : Inp} {k : KS} (h : KLen s k) (m : Nat) : (arrP s x k m).t = k.t ∧ KLen s (arrP s x k m) ∧ (arrP s x k m).evs.length ≤ k.evs.length + m := by
  induction m with
  | zero => exact ⟨rfl, h, Nat.le_refl _⟩
  | succ m ih =>
    obtain ⟨h1, h2, h3⟩ := ih
    rw [arrP_step]
    obtain ⟨g1, g2, g3⟩ := arrive1_keep (x := x) h2 m
    exact ⟨g1.trans h1, g2, by omega⟩
theorem arrive_r25 (b : RB) (B : Nat) (s : TSet) (k : KS) (ev : Value) (os : List (Option Nat)) (x : Inp) (vd : Value) (L : Nat → Prop) (w : World) (hs : KH s) (h : RAt b B w s k ev os) (hkl : KLen s k) (hH : HasR s k os)
    (hxa : x.arrive < 18446744073709551616) (hL : ∀ q, L q → q < w.heap.size) (hlow : ∀ q, footR b os ev q → ¬ L q) (hdem : ∀ w', Same L w w' → SlR (DemL L w) 1 Any w' vd x.dems)
    (ht0 : 0 ≤ k.t) (ht : k.t ≤ 1099511627776) (hl : k.evs.length ≤ 100) (hB : B ≤ w.heap.size) :
    Calls Try.prog 38 #[.pointer (some ⟨b.gk, 0, none⟩), .agg #[.int .u64 x.arrive, vd, .int .u64 x.touch]] w fun e w' => e = .returned (.tuple #[]) ∧ ∃ ev' os', StpR b B s w ev os w' (arriveK s x k) ev' os' ∧ HasR s (arriveK s x k) os' := by
  obtain ⟨A, c, hvt, hcc, hcm, _⟩ := h.tks
  obtain ⟨Ad, cd, hvd, _, _⟩ := (hdem w (fun _ _ => rfl)).form
  subst hvd
  have hn8 := hs.len.2
  unfold maxLen at hcm
  have hA := (Ext.refl w).alloc (.cells #[.int .u64 x.arrive, .slice Ad x.dems.length cd, .int .u64 x.touch] 49)
  have hbi0 := Blk.new w #[.int .u64 x.arrive, .slice Ad x.dems.length cd, .int .u64 x.touch] 49
  generalize hgi : w.heap.size = gi at *
  go_enter Try.func38, Try.ntmps38
  go_wp2_with (fail)
  generalize w.alloc _ = W0 at *
  go_loopw [4] (fun i wr => ∃ (m : Nat) (ev' : Value) (os' : List (Option Nat)), m ≤ s.tasks.length ∧ i = .int .i64 m ∧ StpR b B s w ev os wr (arrP s x k m) ev' os' ∧ Blk wr gi #[.int .u64 x.arrive, .slice Ad x.dems.length cd, .int .u64 x.touch] 49 ∧ HasR s (arrP s x k m) os') (fun i _ => s.tasks.length - (intOf i).toNat)
  case atStart => exact ⟨0, ev, os, by omega, rfl, (StpR.refl h).ext hA, hbi0, hH⟩
  case round =>
    obtain ⟨m, ev1, os1, hm, rfl, hS, hbi, hHR⟩ := hrel
    have HHR := Lib.hid hHR
    clear hHR
    obtain ⟨ht1, hKL, hlen1⟩ := arrP_keep (x := x) hkl m
    have hK := hS.at'
    have hbox := hK.cells
    unfold rcs at hbox
    rw [hvt, ht1] at hbox
    have hb0 := hbox wr (Ext.refl wr)
    have htb := fun w' (hx : Ext wr w') => (hK.tab.ext hx).box.cell
    rw [hKL.2.2] at htb
    have htb0 := htb wr (Ext.refl wr)
    by_cases hlt : m < s.tasks.length
    · have hst := arrP_step s x k m
      have hsz : w.heap.size ≤ wr.heap.size := hS.chg.size
      have hbic := hbi.cell
      have HEnd : ∀ (ev2 : Value) (os2 : List (Option Nat)) (W : World), StpR b B s wr ev1 os1 W (arrP s x k (m + 1)) ev2 os2 →
          StpR b B s w ev os W (arrP s x k (m + 1)) ev2 os2 ∧ Blk W gi #[.int .u64 x.arrive, .slice Ad x.dems.length cd, .int .u64 x.touch] 49 := fun ev2 os2 W h2 =>
        ⟨hS.trans h2, hbi.chg h2.chg (hK.footT.no hbi rfl)⟩
      have HEND := Lib.hid HEnd
      obtain ⟨hpi, hpe⟩ := polL_at s (arrP s x k m) hlt
      have hEarly := fun w' (hx : Ext wr w') => early_r19 b.gp m b.va b.vb (polL s (arrP s x k m)) k.t w' (hK.pol.ext hx) hpi ht0 (by omega)
      have hEq := early_eq s (arrP s x k m) hlt hpi
      rw [ht1] at hEq
      rw [hEq] at hEarly
      have hHas := has_any x.arrive m (by omega) hxa
      have hPut := fun w' (hx : Ext wr w') => put_r21 b.gt b.gs (arrP s x k m).tab m k.t w' (hK.tab.ext hx) (by rw [hKL.2.2]; exact hlt)
      have hTell := fun (a c : Int) w' (hx : Ext wr w') => tellR b B s (arrP s x k m) ev1 os1 a m c w' (hK.ext hx) (by omega) (by have := hx.size; omega)
      have HKL := Lib.hid hKL
      generalize arrP s x k m = k1 at *
      have HEA := Lib.hid hEarly
      have HPut := Lib.hid hPut
      have HTell := Lib.hid hTell
      have HHas := Lib.hid hHas
      have HEQ := Lib.hid hEq
      have HK := Lib.hid hK
      have HS := Lib.hid hS
      have HT1 := Lib.hid ht1
      clear HEnd hEarly hPut hTell hHas hEq hK hS hKL htb hpe
      unfold arrive1 at hst
      cases hab : x.arrive.testBit m with
      | false =>
        rw [if_pos hab] at hst
        have HE := Lib.hid hst
        rw [hab] at HHas
        clear hst hab
        go_wp2_with (fail)
        refine (HHas.out _).mono ?_
        rintro e W2 ⟨rfl, rfl⟩
        go_wp2_with (fail)
        obtain ⟨e1, e2⟩ := HEND.out ev1 os1 wr (by rw [HE.out]; exact StpR.refl HK.out)
        exact ⟨⟨m + 1, ev1, os1, hlt, rfl, e1, e2, by rw [HE.out]; exact HHR.out⟩, by simp [intOf]; omega⟩
      | true =>
        rw [if_neg (by rw [hab]; decide)] at hst
        rw [hab] at HHas
        clear hab
        cases hEb : earlyB s k1 m with
        | true =>
          rw [if_pos hEb] at hst
          have HE := Lib.hid hst
          rw [hEb] at HEA
          clear hst hEb
          go_wp2_with (fail)
          refine (HHas.out _).mono ?_
          rintro e W2 ⟨rfl, rfl⟩
          go_upto_region 5 with (fail)
          refine wp_region_all (S := Ext wr) (by kernel_rfl) (by kernel_rfl) (Ext.refl wr).drew (fun K hK => ?_); (repeat (first | (apply hO_and; (· rfl); (· rfl); (· rfl); (· rfl); simp only [Act.put, List.setIfInBounds_toArray, List.set_cons_zero, List.set_cons_succ]) | (apply hO_or; (· rfl); (· rfl); (· rfl); (· rfl); simp only [Act.put, List.setIfInBounds_toArray, List.set_cons_zero, List.set_cons_succ]) | (apply hO_off; (· rfl); (· rfl); simp only [Act.put, List.setIfInBounds_toArray, List.set_cons_zero, List.set_cons_succ]) | (apply hO_val; (· intro w hS; go_simp; with_reducible rfl); (· rfl); simp only [Act.put, List.setIfInBounds_toArray, List.set_cons_zero, List.set_cons_succ]) | (apply hO_call; (· rfl); (· intro w hS; go_simp; exact ⟨rfl, rfl⟩); (· intro w hS; exact callX hS (HEA.out _ hS)); simp only [Act.put, List.setIfInBounds_toArray, List.set_cons_zero, List.set_cons_succ]) | (apply hO_if; (· rfl); (· rfl); (· intro hif w hS; go_simp; with_reducible rfl); simp only [Act.put, List.setIfInBounds_toArray, List.set_cons_zero, List.set_cons_succ]) | (apply hO_ifcall; (· rfl); (· rfl); (· intro hif w hS; go_simp; exact ⟨rfl, rfl⟩); (· intro hif w hS; exact callX hS (HEA.out _ hS)); simp only [Act.put, List.setIfInBounds_toArray, List.set_cons_zero, List.set_cons_succ]))); refine hO_nil ?_; refine hK _ ?_; clear hK K
          intro W2 hX2
          go_wp2_with (fail)
          refine (HTell.out 2 1 W2 hX2).mono ?_
          rintro e W3 ⟨rfl, ev2, hS2⟩
          go_wp2_with (fail)
          obtain ⟨e1, e2⟩ := HEND.out ev2 os1 W3 (by rw [HE.out]; exact ((StpR.refl HK.out).ext hX2).trans hS2)
          exact ⟨⟨m + 1, ev2, os1, hlt, rfl, e1, e2, by rw [HE.out]; exact HHR.out⟩, by simp [intOf]; omega⟩
        | false =>
          rw [if_neg (by rw [hEb]; decide)] at hst
          rw [hEb] at HEA
          have HB := Lib.hid hEb
          clear hEb
          cases hpe : (stAt k1.tab m).pend with
          | true =>
            rw [if_pos hpe] at hst
            have HE := Lib.hid hst
            rw [hpe, if_pos rfl] at HPut
            clear hst hpe
            go_wp2_with (fail)
            refine (HHas.out _).mono ?_
            rintro e W2 ⟨rfl, rfl⟩
            go_upto_region 5 with (fail)
            refine wp_region_all (S := Ext wr) (by kernel_rfl) (by kernel_rfl) (Ext.refl wr).drew (fun K hK => ?_); (repeat (first | (apply hO_and; (· rfl); (· rfl); (· rfl); (· rfl); simp only [Act.put, List.setIfInBounds_toArray, List.set_cons_zero, List.set_cons_succ]) | (apply hO_or; (· rfl); (· rfl); (· rfl); (· rfl); simp only [Act.put, List.setIfInBounds_toArray, List.set_cons_zero, List.set_cons_succ]) | (apply hO_off; (· rfl); (· rfl); simp only [Act.put, List.setIfInBounds_toArray, List.set_cons_zero, List.set_cons_succ]) | (apply hO_val; (· intro w hS; go_simp; with_reducible rfl); (· rfl); simp only [Act.put, List.setIfInBounds_toArray, List.set_cons_zero, List.set_cons_succ]) | (apply hO_call; (· rfl); (· intro w hS; go_simp; exact ⟨rfl, rfl⟩); (· intro w hS; exact callX hS (HEA.out _ hS)); simp only [Act.put, List.setIfInBounds_toArray, List.set_cons_zero, List.set_cons_succ]) | (apply hO_if; (· rfl); (· rfl); (· intro hif w hS; go_simp; with_reducible rfl); simp only [Act.put, List.setIfInBounds_toArray, List.set_cons_zero, List.set_cons_succ]) | (apply hO_ifcall; (· rfl); (· rfl); (· intro hif w hS; go_simp; exact ⟨rfl, rfl⟩); (· intro hif w hS; exact callX hS (HEA.out _ hS)); simp only [Act.put, List.setIfInBounds_toArray, List.set_cons_zero, List.set_cons_succ]))); refine hO_nil ?_; refine hK _ ?_; clear hK K
            intro W2 hX2
            go_upto_region 7 with (fail)
            refine wp_region_text (n := 9) (S := Ext wr) (by kernel_rfl) (by kernel_rfl) hX2.drew (fun K hK => ?_)
            (repeat (first | (apply hO_and; (· rfl); (· rfl); (· rfl); (· rfl); simp only [Act.put, List.setIfInBounds_toArray, List.set_cons_zero, List.set_cons_succ]) | (apply hO_or; (· rfl); (· rfl); (· rfl); (· rfl); simp only [Act.put, List.setIfInBounds_toArray, List.set_cons_zero, List.set_cons_succ]) | (apply hO_off; (· rfl); (· rfl); simp only [Act.put, List.setIfInBounds_toArray, List.set_cons_zero, List.set_cons_succ]) | (apply hO_val; (· intro w hS; go_simp; with_reducible rfl); (· rfl); simp only [Act.put, List.setIfInBounds_toArray, List.set_cons_zero, List.set_cons_succ]) | (apply hO_call; (· rfl); (· intro w hS; go_simp; exact ⟨rfl, rfl⟩); (· intro w hS; fail); simp only [Act.put, List.setIfInBounds_toArray, List.set_cons_zero, List.set_cons_succ]) | (apply hO_if; (· rfl); (· rfl); (· intro hif w hS; go_simp; with_reducible rfl); simp only [Act.put, List.setIfInBounds_toArray, List.set_cons_zero, List.set_cons_succ]) | (apply hO_ifcall; (· rfl); (· rfl); (· intro hif w hS; go_simp; exact ⟨rfl, rfl⟩); (· intro hif w hS; fail); simp only [Act.put, List.setIfInBounds_toArray, List.set_cons_zero, List.set_cons_succ]))); refine hO_nil ?_
            refine hK _ ?_
            clear hK K
            intro W3 hX3
            simp only [List.drop_succ_cons, List.drop_zero]
            go_wp2_with (fail)
            refine (HPut.out W3 hX3).mono ?_
            rintro e W4 ⟨rfl, hT4, hC4⟩
            have hS4 : StpR b B s wr ev1 os1 W4 k1 ev1 os1 := ((StpR.refl HK.out).ext hX3).trans ((HK.out.ext hX3).tabS hC4 hT4)
            go_wp2_with (fail)
            refine (tellR b B s k1 ev1 os1 2 m 2 W4 hS4.at' (by omega) (by have := hS4.chg.size; omega)).mono ?_
            rintro e W5 ⟨rfl, ev2, hS5⟩
            go_wp2_with (fail)
            obtain ⟨e1, e2⟩ := HEND.out ev2 os1 W5 (by rw [HE.out]; exact hS4.trans hS5)
            exact ⟨⟨m + 1, ev2, os1, hlt, rfl, e1, e2, by rw [HE.out]; exact HHR.out⟩, by simp [intOf]; omega⟩
          | false =>
            rw [if_neg (by rw [hpe]; decide)] at hst
            have HE := Lib.hid hst
            rw [hpe, if_neg (by decide)] at HPut
            clear hst hpe
            go_wp2_with (fail)
            refine (HHas.out _).mono ?_
            rintro e W2 ⟨rfl, rfl⟩
            go_upto_region 5 with (fail)
            refine wp_region_all (S := Ext wr) (by kernel_rfl) (by kernel_rfl) (Ext.refl wr).drew (fun K hK => ?_); (repeat (first | (apply hO_and; (· rfl); (· rfl); (· rfl); (· rfl); simp only [Act.put, List.setIfInBounds_toArray, List.set_cons_zero, List.set_cons_succ]) | (apply hO_or; (· rfl); (· rfl); (· rfl); (· rfl); simp only [Act.put, List.setIfInBounds_toArray, List.set_cons_zero, List.set_cons_succ]) | (apply hO_off; (· rfl); (· rfl); simp only [Act.put, List.setIfInBounds_toArray, List.set_cons_zero, List.set_cons_succ]) | (apply hO_val; (· intro w hS; go_simp; with_reducible rfl); (· rfl); simp only [Act.put, List.setIfInBounds_toArray, List.set_cons_zero, List.set_cons_succ]) | (apply hO_call; (· rfl); (· intro w hS; go_simp; exact ⟨rfl, rfl⟩); (· intro w hS; exact callX hS (HEA.out _ hS)); simp only [Act.put, List.setIfInBounds_toArray, List.set_cons_zero, List.set_cons_succ]) | (apply hO_if; (· rfl); (· rfl); (· intro hif w hS; go_simp; with_reducible rfl); simp only [Act.put, List.setIfInBounds_toArray, List.set_cons_zero, List.set_cons_succ]) | (apply hO_ifcall; (· rfl); (· rfl); (· intro hif w hS; go_simp; exact ⟨rfl, rfl⟩); (· intro hif w hS; exact callX hS (HEA.out _ hS)); simp only [Act.put, List.setIfInBounds_toArray, List.set_cons_zero, List.set_cons_succ]))); refine hO_nil ?_; refine hK _ ?_; clear hK K
            intro W2 hX2
            go_upto_region 7 with (fail)
            refine wp_region_text (n := 9) (S := Ext wr) (by kernel_rfl) (by kernel_rfl) hX2.drew (fun K hK => ?_)
            (repeat (first | (apply hO_and; (· rfl); (· rfl); (· rfl); (· rfl); simp only [Act.put, List.setIfInBounds_toArray, List.set_cons_zero, List.set_cons_succ]) | (apply hO_or; (· rfl); (· rfl); (· rfl); (· rfl); simp only [Act.put, List.setIfInBounds_toArray, List.set_cons_zero, List.set_cons_succ]) | (apply hO_off; (· rfl); (· rfl); simp only [Act.put, List.setIfInBounds_toArray, List.set_cons_zero, List.set_cons_succ]) | (apply hO_val; (· intro w hS; go_simp; with_reducible rfl); (· rfl); simp only [Act.put, List.setIfInBounds_toArray, List.set_cons_zero, List.set_cons_succ]) | (apply hO_call; (· rfl); (· intro w hS; go_simp; exact ⟨rfl, rfl⟩); (· intro w hS; fail); simp only [Act.put, List.setIfInBounds_toArray, List.set_cons_zero, List.set_cons_succ]) | (apply hO_if; (· rfl); (· rfl); (· intro hif w hS; go_simp; with_reducible rfl); simp only [Act.put, List.setIfInBounds_toArray, List.set_cons_zero, List.set_cons_succ]) | (apply hO_ifcall; (· rfl); (· rfl); (· intro hif w hS; go_simp; exact ⟨rfl, rfl⟩); (· intro hif w hS; fail); simp only [Act.put, List.setIfInBounds_toArray, List.set_cons_zero, List.set_cons_succ]))); refine hO_nil ?_
            refine hK _ ?_
            clear hK K
            intro W3 hX3
            simp only [List.drop_succ_cons, List.drop_zero]
            go_wp2_with (fail)
            refine (HPut.out W3 hX3).mono ?_
            rintro e W4 ⟨rfl, hT4, hC4⟩
            have hS4 : StpR b B s wr ev1 os1 W4 { k1 with tab := k1.tab.set m ⟨true, false, false, k.t⟩ } ev1 os1 := ((StpR.refl HK.out).ext hX3).trans ((HK.out.ext hX3).tabS hC4 hT4)
            have hK4 := hS4.at'
            have hbi4 := hbi.chg hS4.chg (HK.out.footT.no hbi rfl)
            have hbic4 := hbi4.cell
            have hdm := hdem W4 ((HS.out.trans hS4).same (fun q hq => by rw [hgi]; exact hL q hq) hlow)
            have hc4 := hK4.cells
            unfold rcs at hc4
            rw [hvt] at hc4
            dsimp only at hc4
            rw [HT1.out] at hc4
            have hE0 : earlyP ((polL s k1)[m]) k.t = false := by rw [HEQ.out]; exact HB.out
            have hNote := fun w' (hx : Ext W4 w') => note_r19 b.gp m b.va b.vb (polL s k1) k.t w' (hK4.ext hx).pol hpi ht0 (by omega) hE0
            rw [polL_set s k1 hlt HKL.out.2.1 hpi] at hNote
            have HNote := Lib.hid hNote
            have HK4 := Lib.hid hK4
            have HS4 := Lib.hid hS4
            clear hNote hE0 hK4 hS4 hT4 hC4 hX3 hX2 hb0 htb0 hbic hbox
            by_cases hdl : m < x.dems.length
            · have hd1 : decide ((m : Int) < (x.dems.length : Int)) = true := decide_eq_true (by omega)
              obtain ⟨bd, od, rfl, hdr⟩ := hdm.at hdl
              obtain ⟨rz, hrz, hIz⟩ := hdr
              rw [Nat.mul_one] at hrz
              have HZ : x.dems.getD m [] = x.dems[m] := getD_at hdl _
              go_upto_region 12 with (fail)
              refine wp_region_text (n := 9) (S := Ext W4) (by kernel_rfl) (by kernel_rfl) (Ext.refl W4).drew (fun K hK => ?_)
              (repeat (first | (apply hO_and; (· rfl); (· rfl); (· rfl); (· rfl); simp only [Act.put, List.setIfInBounds_toArray, List.set_cons_zero, List.set_cons_succ]) | (apply hO_or; (· rfl); (· rfl); (· rfl); (· rfl); simp only [Act.put, List.setIfInBounds_toArray, List.set_cons_zero, List.set_cons_succ]) | (apply hO_off; (· rfl); (· rfl); simp only [Act.put, List.setIfInBounds_toArray, List.set_cons_zero, List.set_cons_succ]) | (apply hO_val; (· intro w hS; go_simp; with_reducible rfl); (· rfl); simp only [Act.put, List.setIfInBounds_toArray, List.set_cons_zero, List.set_cons_succ]) | (apply hO_call; (· rfl); (· intro w hS; go_simp; exact ⟨rfl, rfl⟩); (· intro w hS; fail); simp only [Act.put, List.setIfInBounds_toArray, List.set_cons_zero, List.set_cons_succ]) | (apply hO_if; (· rfl); (· rfl); (· intro hif w hS; go_simp; with_reducible rfl); simp only [Act.put, List.setIfInBounds_toArray, List.set_cons_zero, List.set_cons_succ]) | (apply hO_ifcall; (· rfl); (· rfl); (· intro hif w hS; go_simp; exact ⟨rfl, rfl⟩); (· intro hif w hS; fail); simp only [Act.put, List.setIfInBounds_toArray, List.set_cons_zero, List.set_cons_succ]))); refine hO_nil ?_
              refine hK _ ?_
              clear hK K
              intro W5 hX5
              simp only [List.drop_succ_cons, List.drop_zero]
              go_wp2_with (fail)
              refine (HNote.out W5 hX5).mono ?_
              rintro e W6 ⟨rfl, hP6, hC6⟩
              have hK6 := (HK4.out.ext hX5).setPol hC6 hP6
              have hS6 : StpR b B s wr ev1 os1 W6 { ({ k1 with tab := k1.tab.set m ⟨true, false, false, k.t⟩ } : KS) with pol := k1.pol.set m k.t } ev1 os1 := (HS4.out.ext hX5).trans ⟨hK6, hC6.to (fun q _ hq => .inr (.inr (.inr (.inr (.inr (.inr (.inl hq))))))), fun q hq => .inl hq⟩
              have hz6 : Ints W6 rz x.dems[m] := hIz W6 ((HS.out.trans hS6).same (fun q hq => by rw [hgi]; exact hL q hq) hlow)
              have hT6 := hK6.tks
              rw [hvt] at hT6
              obtain ⟨bt, ot, rr, rfl, hat⟩ := hT6.at hlt
              have hcr := hat.under.2.2.2.2.2.2.1
              have hIr := hat.1
              have hrg := hs.regs m hlt
              rw [tk_at s hlt] at hrg
              have hc6 := hK6.cells
              unfold rcs at hc6
              rw [hvt] at hc6
              have hJob := fun w' (hx : Ext W6 w') => new_r20 s.tasks[m].regs x.dems[m] rr rz w' (hIr.ext hx) (hz6.ext hx) ⟨hrg.1, hrg.2.1⟩ hrg.2.2
              have HJob := Lib.hid hJob
              have HK6 := Lib.hid hK6
              have HS6 := Lib.hid hS6
              have hjrow := fun w' (hx : Ext W6 w') j => (hK6.ext hx).jrow.free j
              clear hJob hT6 hat hIr hrg hK6 hS6 hP6 hC6 hX5 hz6
              go_upto_region 13 with (fail)
              refine wp_region_mixZ (T := [15, 17]) (z := 17) (S := Ext W6) (W := W6) (Ext.mono W6) (by kernel_rfl) (by kernel_rfl) (by kernel_rfl) (Ext.refl W6).drew (Ext.refl W6) (fun _ _ h => h) (fun K hK => ?_)
              (repeat (first | (refine hX_skip ?_ ?_; (· rfl)) | (apply hX_and; (· rfl); (· rfl); (· rfl); (· rfl); (· rfl); simp only [Act.put, List.setIfInBounds_toArray, List.set_cons_zero, List.set_cons_succ]) | (apply hX_or; (· rfl); (· rfl); (· rfl); (· rfl); (· rfl); simp only [Act.put, List.setIfInBounds_toArray, List.set_cons_zero, List.set_cons_succ]) | (apply hX_off; (· rfl); (· rfl); (· rfl); simp only [Act.put, List.setIfInBounds_toArray, List.set_cons_zero, List.set_cons_succ]) | (apply hX_val; (· rfl); (· intro w hS; go_simp; with_reducible rfl); (· rfl); simp only [Act.put, List.setIfInBounds_toArray, List.set_cons_zero, List.set_cons_succ]) | (apply hX_call; (· rfl); (· rfl); (· intro w hS; go_simp; exact ⟨rfl, rfl⟩); (· intro w hS; fail); simp only [Act.put, List.setIfInBounds_toArray, List.set_cons_zero, List.set_cons_succ]) | (apply hX_if; (· rfl); (· rfl); (· rfl); (· intro hif w hS; go_simp; with_reducible rfl); simp only [Act.put, List.setIfInBounds_toArray, List.set_cons_zero, List.set_cons_succ]) | (apply hX_ifcall; (· rfl); (· rfl); (· rfl); (· intro hif w hS; go_simp; exact ⟨rfl, rfl⟩); (· intro hif w hS; fail); simp only [Act.put, List.setIfInBounds_toArray, List.set_cons_zero, List.set_cons_succ]))); refine hX_nil ?_
              refine hK _ ?_
              clear hK K
              refine wpZ_want (i := 15) (by kernel_rfl) rfl (by simp [Region.wanted, yielded]) ?_
              intro w8 hx8 K hK
              go_simp
              refine (HJob.out w8 hx8).mono ?_
              rintro e w9 ⟨gj, rfl, hgj, hJ9, hX9⟩
              have hE9 := hx8.trans hX9
              refine hK _ _ hE9 ?_
              clear hK K
              have hgj2 := hx8.size
              refine wpZ_last (by kernel_rfl) rfl (by simp [Region.wanted, yielded]) ?_
              intro w11 hx11 K hK
              have hE11 := hE9.trans hx11
              have hJ11 := (hJ9.ext hx11).lower (base' := b.base) (by have := HK6.out.bas; omega)
              have hK11 := HK6.out.ext hE11
              have hjl : m < os1.length := by rw [hK11.jl]; exact hlt
              have hput := hK11.jrow.set (fun _ => rfl) (i := m) (j := 0) (u := .pointer (some ⟨gj, 0, none⟩)) (x' := some gj) (by decide) (fun _ => rfl)
              have hr0 := hK11.jrow.at (fun _ => rfl) (i := m) (j := 0) hjl (by decide)
              have hfr := hjrow w11 hE11
              rw [Nat.mul_one, Nat.add_zero] at hput hr0
              have hchg := (Chg.refl (fun q => q = b.gj) w11).set (g := b.gj) (i := m) (.inl rfl) (.pointer (some ⟨gj, 0, none⟩))
              have hnew : ∀ i, i < s.tasks.length → opAt os1 i ≠ some gj := fun i hi e => by
                obtain ⟨cs, hB⟩ := (HK6.out.jobs i hi gj e).blk
                have := hB.lt
                omega
              have hjbc : (gj = b.gj) → False := fun e => by
                have := hK11.jrow
                have h1 := HK6.out.jrow
                have := Blk.lt (show Blk W6 b.gj _ _ from h1)
                omega
              have hJ12 : JobR (w11.setCell ⟨b.gj, m, none⟩ (.pointer (some ⟨gj, 0, none⟩))) b.base gj (newJ s.tasks[m].regs x.dems[m]) := hJ11.chg hchg hjbc (fun q cs _ hB e => by
                subst e
                have := (Blk.type hB (show Blk w11 _ _ 116 from hK11.jrow)).1
                exact absurd this (by decide))
              have hK12 := hK11.newJob (m := m) (g := gj) (x := newJ s.tasks[m].regs x.dems[m]) hlt HKL.out.1 hchg hput hJ12 hnew
              have hS12 := HS6.out.trans (⟨hK12, ((Chg.of_ext hE11).trans hchg).to (fun q _ hq => .inr (.inr (.inr (.inl hq)))), fun q hq => by
                rcases hq with h | h | h | h | h | h | h | h | ⟨i, h⟩
                · exact .inl (.inl h)
                · exact .inl (.inr (.inl h))
                · exact .inl (.inr (.inr (.inl h)))
                · exact .inl (.inr (.inr (.inr (.inl h))))
                · exact .inl (.inr (.inr (.inr (.inr (.inl h)))))
                · exact .inl (.inr (.inr (.inr (.inr (.inr (.inl h))))))
                · exact .inl (.inr (.inr (.inr (.inr (.inr (.inr (.inl h)))))))
                · exact .inl (.inr (.inr (.inr (.inr (.inr (.inr (.inr (.inl h))))))))
                · by_cases e : m = i
                  · subst e
                    have h2 : opAt (os1.set m (some gj)) m = some gj := by unfold opAt; rw [getD_set (by omega), if_pos rfl]
                    rw [h2] at h
                    have := Option.some.inj h
                    exact .inr (by omega)
                  · have h2 : opAt (os1.set m (some gj)) i = opAt os1 i := by unfold opAt; simp [List.getD, List.getElem?_set_ne e]
                    rw [h2] at h
                    exact .inl (.inr (.inr (.inr (.inr (.inr (.inr (.inr (.inr ⟨i, h⟩))))))))⟩ : StpR b B s W6 ev1 os1 _ _ ev1 _)
              have HS12 := Lib.hid hS12
              have hhn : HasR s (arrP s x k (m + 1)) (os1.set m (some gj)) := by
                rw [HE.out]
                intro i hi hpi
                by_cases e : m = i
                · subst e
                  exact ⟨gj, by unfold opAt; rw [getD_set (by omega), if_pos rfl]⟩
                · have hpi2 : (stAt (k1.tab.set m ⟨true, false, false, k1.t⟩) i).pend = true := hpi
                  rw [stAt_set (by rw [HKL.out.2.2]; exact hlt), if_neg e] at hpi2
                  obtain ⟨g, hg⟩ := HHR.out i hi hpi2
                  exact ⟨g, by unfold opAt at *; rw [← hg]; simp [List.getD, List.getElem?_set_ne e]⟩
              have HHN := Lib.hid hhn
              clear hhn hnew hjbc hput hchg hJ12 hK12 hS12 hK11 hJ11
              go_simp
              refine hK _ _ ?_
              clear hK K hr0 hfr
              generalize w11.setCell _ _ = W12 at HS12 ⊢
              refine wpZ_done (by kernel_rfl) (fun W13 hX13 => ?_) _
              have HS13 := Lib.hid (HS12.out.ext hX13)
              go_wp2_with (fail)
              refine (tellR b B s _ ev1 _ 1 m 0 W13 HS13.out.at' (by show k1.evs.length ≤ 1000; omega) (by have := HS13.out.chg.size; omega)).mono ?_
              rintro e W14 ⟨rfl, ev2, hS14⟩
              have hS15 := (HS13.out.trans hS14).state (k2 := admitK s x k1 m) (by
                unfold admitK KS.tell
                rw [HT1.out, tk_at s hlt, HZ])
              have HS15 := Lib.hid hS15
              clear hS14 hS15
              go_wp2_with (fail)
              obtain ⟨e1, e2⟩ := HEND.out ev2 _ W14 (by rw [HE.out]; exact HS15.out)
              exact ⟨⟨m + 1, ev2, _, hlt, rfl, e1, e2, HHN.out⟩, by simp [intOf]; omega⟩
            · have hd1 : decide ((m : Int) < (x.dems.length : Int)) = false := decide_eq_false (by omega)
              have hIz : ∀ w2, Same L w w2 → Ints w2 (.slice none 0 0) [] := fun w2 _ => ⟨none, 0, rfl, Nat.le_refl _, by decide, fun h => absurd rfl h⟩
              have HZ : x.dems.getD m [] = [] := by simp [List.getD, List.getElem?_eq_none (show x.dems.length ≤ m by omega)]
              go_upto_region 12 with (fail)
              refine wp_region_text (n := 9) (S := Ext W4) (by kernel_rfl) (by kernel_rfl) (Ext.refl W4).drew (fun K hK => ?_)
              (repeat (first | (apply hO_and; (· rfl); (· rfl); (· rfl); (· rfl); simp only [Act.put, List.setIfInBounds_toArray, List.set_cons_zero, List.set_cons_succ]) | (apply hO_or; (· rfl); (· rfl); (· rfl); (· rfl); simp only [Act.put, List.setIfInBounds_toArray, List.set_cons_zero, List.set_cons_succ]) | (apply hO_off; (· rfl); (· rfl); simp only [Act.put, List.setIfInBounds_toArray, List.set_cons_zero, List.set_cons_succ]) | (apply hO_val; (· intro w hS; go_simp; with_reducible rfl); (· rfl); simp only [Act.put, List.setIfInBounds_toArray, List.set_cons_zero, List.set_cons_succ]) | (apply hO_call; (· rfl); (· intro w hS; go_simp; exact ⟨rfl, rfl⟩); (· intro w hS; fail); simp only [Act.put, List.setIfInBounds_toArray, List.set_cons_zero, List.set_cons_succ]) | (apply hO_if; (· rfl); (· rfl); (· intro hif w hS; go_simp; with_reducible rfl); simp only [Act.put, List.setIfInBounds_toArray, List.set_cons_zero, List.set_cons_succ]) | (apply hO_ifcall; (· rfl); (· rfl); (· intro hif w hS; go_simp; exact ⟨rfl, rfl⟩); (· intro hif w hS; fail); simp only [Act.put, List.setIfInBounds_toArray, List.set_cons_zero, List.set_cons_succ]))); refine hO_nil ?_
              refine hK _ ?_
              clear hK K
              intro W5 hX5
              simp only [List.drop_succ_cons, List.drop_zero]
              go_wp2_with (fail)
              refine (HNote.out W5 hX5).mono ?_
              rintro e W6 ⟨rfl, hP6, hC6⟩
              have hK6 := (HK4.out.ext hX5).setPol hC6 hP6
              have hS6 : StpR b B s wr ev1 os1 W6 { ({ k1 with tab := k1.tab.set m ⟨true, false, false, k.t⟩ } : KS) with pol := k1.pol.set m k.t } ev1 os1 := (HS4.out.ext hX5).trans ⟨hK6, hC6.to (fun q _ hq => .inr (.inr (.inr (.inr (.inr (.inr (.inl hq))))))), fun q hq => .inl hq⟩
              have hz6 : Ints W6 (.slice none 0 0) [] := hIz W6 ((HS.out.trans hS6).same (fun q hq => by rw [hgi]; exact hL q hq) hlow)
              have hT6 := hK6.tks
              rw [hvt] at hT6
              obtain ⟨bt, ot, rr, rfl, hat⟩ := hT6.at hlt
              have hcr := hat.under.2.2.2.2.2.2.1
              have hIr := hat.1
              have hrg := hs.regs m hlt
              rw [tk_at s hlt] at hrg
              have hc6 := hK6.cells
              unfold rcs at hc6
              rw [hvt] at hc6
              have hJob := fun w' (hx : Ext W6 w') => new_r20 s.tasks[m].regs [] rr (.slice none 0 0) w' (hIr.ext hx) (hz6.ext hx) ⟨hrg.1, hrg.2.1⟩ hrg.2.2
              have HJob := Lib.hid hJob
              have HK6 := Lib.hid hK6
              have HS6 := Lib.hid hS6
              have hjrow := fun w' (hx : Ext W6 w') j => (hK6.ext hx).jrow.free j
              clear hJob hT6 hat hIr hrg hK6 hS6 hP6 hC6 hX5 hz6
              go_upto_region 13 with (fail)
              refine wp_region_mixZ (T := [15, 17]) (z := 17) (S := Ext W6) (W := W6) (Ext.mono W6) (by kernel_rfl) (by kernel_rfl) (by kernel_rfl) (Ext.refl W6).drew (Ext.refl W6) (fun _ _ h => h) (fun K hK => ?_)
              (repeat (first | (refine hX_skip ?_ ?_; (· rfl)) | (apply hX_and; (· rfl); (· rfl); (· rfl); (· rfl); (· rfl); simp only [Act.put, List.setIfInBounds_toArray, List.set_cons_zero, List.set_cons_succ]) | (apply hX_or; (· rfl); (· rfl); (· rfl); (· rfl); (· rfl); simp only [Act.put, List.setIfInBounds_toArray, List.set_cons_zero, List.set_cons_succ]) | (apply hX_off; (· rfl); (· rfl); (· rfl); simp only [Act.put, List.setIfInBounds_toArray, List.set_cons_zero, List.set_cons_succ]) | (apply hX_val; (· rfl); (· intro w hS; go_simp; with_reducible rfl); (· rfl); simp only [Act.put, List.setIfInBounds_toArray, List.set_cons_zero, List.set_cons_succ]) | (apply hX_call; (· rfl); (· rfl); (· intro w hS; go_simp; exact ⟨rfl, rfl⟩); (· intro w hS; fail); simp only [Act.put, List.setIfInBounds_toArray, List.set_cons_zero, List.set_cons_succ]) | (apply hX_if; (· rfl); (· rfl); (· rfl); (· intro hif w hS; go_simp; with_reducible rfl); simp only [Act.put, List.setIfInBounds_toArray, List.set_cons_zero, List.set_cons_succ]) | (apply hX_ifcall; (· rfl); (· rfl); (· rfl); (· intro hif w hS; go_simp; exact ⟨rfl, rfl⟩); (· intro hif w hS; fail); simp only [Act.put, List.setIfInBounds_toArray, List.set_cons_zero, List.set_cons_succ]))); refine hX_nil ?_
              refine hK _ ?_
              clear hK K
              refine wpZ_want (i := 15) (by kernel_rfl) rfl (by simp [Region.wanted, yielded]) ?_
              intro w8 hx8 K hK
              go_simp
              refine (HJob.out w8 hx8).mono ?_
              rintro e w9 ⟨gj, rfl, hgj, hJ9, hX9⟩
              have hE9 := hx8.trans hX9
              refine hK _ _ hE9 ?_
              clear hK K
              have hgj2 := hx8.size
              refine wpZ_last (by kernel_rfl) rfl (by simp [Region.wanted, yielded]) ?_
              intro w11 hx11 K hK
              have hE11 := hE9.trans hx11
              have hJ11 := (hJ9.ext hx11).lower (base' := b.base) (by have := HK6.out.bas; omega)
              have hK11 := HK6.out.ext hE11
              have hjl : m < os1.length := by rw [hK11.jl]; exact hlt
              have hput := hK11.jrow.set (fun _ => rfl) (i := m) (j := 0) (u := .pointer (some ⟨gj, 0, none⟩)) (x' := some gj) (by decide) (fun _ => rfl)
              have hr0 := hK11.jrow.at (fun _ => rfl) (i := m) (j := 0) hjl (by decide)
              have hfr := hjrow w11 hE11
              rw [Nat.mul_one, Nat.add_zero] at hput hr0
              have hchg := (Chg.refl (fun q => q = b.gj) w11).set (g := b.gj) (i := m) (.inl rfl) (.pointer (some ⟨gj, 0, none⟩))
              have hnew : ∀ i, i < s.tasks.length → opAt os1 i ≠ some gj := fun i hi e => by
                obtain ⟨cs, hB⟩ := (HK6.out.jobs i hi gj e).blk
                have := hB.lt
                omega
              have hjbc : (gj = b.gj) → False := fun e => by
                have := hK11.jrow
                have h1 := HK6.out.jrow
                have := Blk.lt (show Blk W6 b.gj _ _ from h1)
                omega
              have hJ12 : JobR (w11.setCell ⟨b.gj, m, none⟩ (.pointer (some ⟨gj, 0, none⟩))) b.base gj (newJ s.tasks[m].regs []) := hJ11.chg hchg hjbc (fun q cs _ hB e => by
                subst e
                have := (Blk.type hB (show Blk w11 _ _ 116 from hK11.jrow)).1
                exact absurd this (by decide))
              have hK12 := hK11.newJob (m := m) (g := gj) (x := newJ s.tasks[m].regs []) hlt HKL.out.1 hchg hput hJ12 hnew
              have hS12 := HS6.out.trans (⟨hK12, ((Chg.of_ext hE11).trans hchg).to (fun q _ hq => .inr (.inr (.inr (.inl hq)))), fun q hq => by
                rcases hq with h | h | h | h | h | h | h | h | ⟨i, h⟩
                · exact .inl (.inl h)
                · exact .inl (.inr (.inl h))
                · exact .inl (.inr (.inr (.inl h)))
                · exact .inl (.inr (.inr (.inr (.inl h))))
                · exact .inl (.inr (.inr (.inr (.inr (.inl h)))))
                · exact .inl (.inr (.inr (.inr (.inr (.inr (.inl h))))))
                · exact .inl (.inr (.inr (.inr (.inr (.inr (.inr (.inl h)))))))
                · exact .inl (.inr (.inr (.inr (.inr (.inr (.inr (.inr (.inl h))))))))
                · by_cases e : m = i
                  · subst e
                    have h2 : opAt (os1.set m (some gj)) m = some gj := by unfold opAt; rw [getD_set (by omega), if_pos rfl]
                    rw [h2] at h
                    have := Option.some.inj h
                    exact .inr (by omega)
                  · have h2 : opAt (os1.set m (some gj)) i = opAt os1 i := by unfold opAt; simp [List.getD, List.getElem?_set_ne e]
                    rw [h2] at h
                    exact .inl (.inr (.inr (.inr (.inr (.inr (.inr (.inr (.inr ⟨i, h⟩))))))))⟩ : StpR b B s W6 ev1 os1 _ _ ev1 _)
              have HS12 := Lib.hid hS12
              have hhn : HasR s (arrP s x k (m + 1)) (os1.set m (some gj)) := by
                rw [HE.out]
                intro i hi hpi
                by_cases e : m = i
                · subst e
                  exact ⟨gj, by unfold opAt; rw [getD_set (by omega), if_pos rfl]⟩
                · have hpi2 : (stAt (k1.tab.set m ⟨true, false, false, k1.t⟩) i).pend = true := hpi
                  rw [stAt_set (by rw [HKL.out.2.2]; exact hlt), if_neg e] at hpi2
                  obtain ⟨g, hg⟩ := HHR.out i hi hpi2
                  exact ⟨g, by unfold opAt at *; rw [← hg]; simp [List.getD, List.getElem?_set_ne e]⟩
              have HHN := Lib.hid hhn
              clear hhn hnew hjbc hput hchg hJ12 hK12 hS12 hK11 hJ11
              go_simp
              refine hK _ _ ?_
              clear hK K hr0 hfr
              generalize w11.setCell _ _ = W12 at HS12 ⊢
              refine wpZ_done (by kernel_rfl) (fun W13 hX13 => ?_) _
              have HS13 := Lib.hid (HS12.out.ext hX13)
              go_wp2_with (fail)
              refine (tellR b B s _ ev1 _ 1 m 0 W13 HS13.out.at' (by show k1.evs.length ≤ 1000; omega) (by have := HS13.out.chg.size; omega)).mono ?_
              rintro e W14 ⟨rfl, ev2, hS14⟩
              have hS15 := (HS13.out.trans hS14).state (k2 := admitK s x k1 m) (by
                unfold admitK KS.tell
                rw [HT1.out, tk_at s hlt, HZ])
              have HS15 := Lib.hid hS15
              clear hS14 hS15
              go_wp2_with (fail)
              obtain ⟨e1, e2⟩ := HEND.out ev2 _ W14 (by rw [HE.out]; exact HS15.out)
              exact ⟨⟨m + 1, ev2, _, hlt, rfl, e1, e2, HHN.out⟩, by simp [intOf]; omega⟩
    · obtain rfl : m = s.tasks.length := by omega
      have HS := Lib.hid hS
      clear hS hK
      go_wp2_with (fail)
      exact bodyPost_end (v := .tuple #[]) (results_none Try.results38 _ _ _) rfl ⟨rfl, ev1, os1, HS.out, HHR.out⟩
end Go.Proofs.Ytlaflbepidkmnaa
