/- The program's kernel and the document's, side by side in one memory. -/
import Derived.Test.YtniejidekflmiaaGreatDoorProg
import Derived.Test.YtniejidekflmiaaGreatDoorBase
import Derived.Test.YtniejidekflmiaaGreatDoorHeldX
import Derived.Test.YtniejidekflmiaaGreatDoorHeldN
import Derived.Test.YtniejidekflmiaaGreatDoorApp
import Derived.Test.YtniejidekflmiaaGreatDoorExt0
import Derived.Test.YtniejidekflmiaaGreatDoorChg
import Derived.Test.YtniejidekflmiaaGreatDoorRowB
import Derived.Test.YtniejidekflmiaaGreatDoorKM
import Derived.Test.YtniejidekflmiaaGreatDoorKP1
import Derived.Test.YtniejidekflmiaaGreatDoorKch
import Derived.Test.YtniejidekflmiaaGreatDoorOpenI
import Derived.Test.YtniejidekflmiaaGreatDoorTskP
import Derived.Test.YtniejidekflmiaaGreatDoorKbit
import Derived.Test.YtniejidekflmiaaGreatDoorKcac
import Derived.Test.YtniejidekflmiaaGreatDoorKpol
import Derived.Test.YtniejidekflmiaaGreatDoorKjob
import Derived.Test.YtniejidekflmiaaGreatDoorKn0
import Derived.Test.YtniejidekflmiaaGreatDoorKker
import Derived.Test.YtniejidekflmiaaGreatDoorKtab
import Derived.Test.YtniejidekflmiaaGreatDoorKat
import Derived.Test.YtniejidekflmiaaGreatDoorKlate
import Derived.Test.YtniejidekflmiaaGreatDoorKtur
import Derived.Test.YtniejidekflmiaaGreatDoorKrun
import Derived.Test.YtniejidekflmiaaGreatDoorKrn
import Derived.Test.YtniejidekflmiaaGreatDoorR18
import Derived.Test.YtniejidekflmiaaGreatDoorR19
import Derived.Test.YtniejidekflmiaaGreatDoorRat
import Derived.Test.YtniejidekflmiaaGreatDoorR25c
import Derived.Test.YtniejidekflmiaaGreatDoorR25n
import Derived.Test.YtniejidekflmiaaGreatDoorKnew
import Derived.Test.YtniejidekflmiaaGreatDoorTskA
import Derived.Test.YtniejidekflmiaaGreatDoorTskS
import Derived.Test.YtniejidekflmiaaGreatDoorSetO
import Derived.Test.YtniejidekflmiaaGreatDoorKrd
import Derived.Test.YtniejidekflmiaaGreatDoorEvO
import Derived.Deep.Cut
import Derived.Lib.Hide
import Derived.OwnWalk
import Derived.Maps.AppendAt
import Derived.BigQuiet
namespace Go.Proofs.YtniejidekflmiaaGreatDoor
open Go.RowKit
set_option linter.unusedSimpArgs false
set_option linter.unusedVariables false
set_option maxRecDepth 100000
set_option maxHeartbeats 1600000
attribute [local irreducible] Calls
theorem footR_lt {b : RB} {B : Nat} {w : World} {s : TSet} {k : KS} {ev : Value} {os : List (Option Nat)} (h : RAt b B w s k ev os) {q : Nat} (hq : footR b os ev q) : q < w.heap.size := by
  obtain ⟨_, _, _, hB⟩ := h.footT q hq
  exact hB.lt
/-- the document's kernel stays while blocks of the program's are changed -/
theorem RAt.far {b : RB} {B : Nat} {w w' : World} {s : TSet} {k : KS} {ev : Value} {os : List (Option Nat)} {F : Nat → Prop} (h : RAt b B w s k ev os) (hc : Chg F w w') (hF : FT w F footTs) (hne : ∀ q, F q → ¬ footR b os ev q) : RAt b B w' s k ev os := by
  have hQ : FQ b w F := hF.q rfl
  exact { h with
    box := h.kBox hc hF rfl, trow := h.kTrow hc hF rfl, regs := h.kRegs hc hQ, pol := h.kPol hc hF rfl hQ (h.noB hF rfl), cache := h.kCache hc hF rfl
    tab := h.tab.chg hc (hF.no h.tab.box rfl) (fun f => hne _ f (.inr (.inl rfl)))
    jrow := h.kJrow hc hF rfl, hrow := h.kHrow hc hF rfl, lrow := h.kLrow hc (h.noL hF rfl), jobs := h.kJobs hc hF rfl hQ
    evs := OwnL.chg h.evs hc (fun q hq hf => hne q hf (.inr (.inr (.inr (.inr (.inr (.inr (.inr (.inl hq)))))))))
    bas := Nat.le_trans h.bas hc.size }
/-- the program's kernel stays while blocks of the document's are changed -/
theorem KAt.far {b : KB} {B : Nat} {w w' : World} {s : TSet} {k : KS} {ev : Value} {os : List Ow} {F : Nat → Prop} (h : KAt b B w s k ev os) (hc : Chg F w w') (hF : FT w F footTsR) (hne : ∀ q, F q → ¬ foot b os ev q)
    (hR : ∀ p ∈ b.ps, ∀ q, p.2.ownBlock = some q → ¬ F q) (hI : ∀ q cs, F q → Blk w q cs 2 → q < b.base) : KAt b B w' s k ev os := by
  exact { h with
    box := h.kBox hc hF rfl
    tasks := ⟨h.tasks.row.chg hc (hF.own h.tasks.row rfl), fun p hp => OwnL.chg (h.tasks.regs p hp) hc (fun q hq => hR p hp q hq)⟩
    pol := h.kPol hc hF rfl rfl, cache := h.kCache hc hF rfl
    tab := h.tab.chg hc (hF.no h.tab.box rfl) (fun f => hne _ f (.inr (.inl rfl)))
    row := h.kRow hc hF rfl
    jobs := fun i hi g hg => by
      have hJ := h.jobs i hi g hg
      obtain ⟨cs, hB⟩ := hJ.blk
      exact hJ.chg hc (hF.no hB rfl) (fun q cs hq hB hf => by have := hI q cs hf hB; omega)
    evs := OwnL.chg h.evs hc (fun q hq hf => hne q hf (.inr (.inr (.inr (.inr (.inr (.inl hq)))))))
    bas := Nat.le_trans h.bas hc.size }
/-- a kernel without jobs: from where its jobs' rows lie -/
theorem KAt.raise {b : KB} {B : Nat} {w : World} {s : TSet} {k : KS} {ev : Value} {os : List Ow} (h : KAt b B w s k ev os) (hn : ∀ i, (owAt os i).p = none) {n : Nat} (hb : n ≤ w.heap.size) : KAt { b with base := n } B w s k ev os :=
  { h with
    jobs := fun i hi g hg => by rw [hn] at hg; cases hg
    bas := hb }
structure Pair (s : TSet) (l : List Inp) (W0 wr : World) (b : KB) (b2 : RB) (m : Nat) (k : KS) (P : List Ev) (B : Nat) (ev : Value) (os : List Ow) (B2 : Nat) (ev2 : Value) (os2 : List (Option Nat)) : Prop where
  le : m ≤ l.length
  run : RunAt s l m k P
  at1 : KAt b B wr s k ev os
  has1 : HasP s k os
  low1 : ∀ q, foot b os ev q → W0.heap.size ≤ q
  at2 : RAt b2 B2 wr s k ev2 os2
  has2 : HasR s k os2
  low2 : ∀ q, footR b2 os2 ev2 q → W0.heap.size ≤ q
  apart : ∀ q, foot b os ev q → ¬ footR b2 os2 ev2 q
  gl : b2.gl < b.base ∧ ∀ q, b2.vb.ownBlock = some q → q < b.base
  regs : ∀ p ∈ b.ps, ∀ q, p.2.ownBlock = some q → q < b2.gl ∧ ∀ q2, b2.vb.ownBlock = some q2 → q < q2
  ext : Ext W0 wr
section
variable {s : TSet} {l : List Inp} {W0 wr w5 w6 : World} {b : KB} {b2 : RB} {m : Nat} {k k' : KS} {P : List Ev} {B B2 : Nat} {ev ev' : Value} {os os' : List Ow} {ev2 ev2' : Value} {os2 os2' : List (Option Nat)}
theorem Pair.grow (h : Pair s l W0 wr b b2 m k P B ev os B2 ev2 os2) (hx : Ext wr w5) : Pair s l W0 w5 b b2 m k P B ev os B2 ev2 os2 :=
  { h with at1 := h.at1.ext hx, at2 := h.at2.ext hx, ext := h.ext.trans hx }
/-- behind the program's step -/
structure Half (s : TSet) (l : List Inp) (W0 wr : World) (b : KB) (b2 : RB) (m : Nat) (k k' : KS) (P : List Ev) (B : Nat) (ev : Value) (os : List Ow) (B2 : Nat) (ev2 : Value) (os2 : List (Option Nat)) : Prop where
  run : RunAt s l m k P
  at1 : KAt b B wr s k' ev os
  has1 : HasP s k' os
  low1 : ∀ q, foot b os ev q → W0.heap.size ≤ q
  at2 : RAt b2 B2 wr s k ev2 os2
  has2 : HasR s k os2
  low2 : ∀ q, footR b2 os2 ev2 q → W0.heap.size ≤ q
  apart : ∀ q, foot b os ev q → ¬ footR b2 os2 ev2 q
  gl : b2.gl < b.base ∧ ∀ q, b2.vb.ownBlock = some q → q < b.base
  regs : ∀ p ∈ b.ps, ∀ q, p.2.ownBlock = some q → q < b2.gl ∧ ∀ q2, b2.vb.ownBlock = some q2 → q < q2
  ext : Ext W0 wr
theorem Half.grow (h : Half s l W0 wr b b2 m k k' P B ev os B2 ev2 os2) (hx : Ext wr w5) : Half s l W0 w5 b b2 m k k' P B ev os B2 ev2 os2 :=
  { h with at1 := h.at1.ext hx, at2 := h.at2.ext hx, ext := h.ext.trans hx }
theorem Pair.one (h : Pair s l W0 wr b b2 m k P B ev os B2 ev2 os2)
    (hK : KAt b wr.heap.size w5 s k' ev' os') (hC : Chg (foot b os ev) wr w5) (hf : ∀ q, foot b os' ev' q → foot b os ev q ∨ wr.heap.size ≤ q) (hH : HasP s k' os') :
    Half s l W0 w5 b b2 m k k' P wr.heap.size ev' os' B2 ev2 os2 := by
  refine ⟨h.run, hK, hH, fun q hq => ?_, h.at2.far hC h.at1.footT h.apart, h.has2, h.low2, fun q hq hr => ?_, h.gl, h.regs, h.ext.chg hC h.low1⟩
  · rcases hf q hq with h1 | h1
    · exact h.low1 q h1
    · have := h.ext.size; omega
  · rcases hf q hq with h1 | h1
    · exact h.apart q h1 hr
    · have := footR_lt h.at2 hr; omega
theorem Half.two (hs : KH s) (hm : m < l.length) (h : Half s l W0 wr b b2 m k (stepK s k l[m]) P B ev os B2 ev2 os2)
    (hK : RAt b2 wr.heap.size w5 s (stepK s k l[m]) ev2' os2') (hC : Chg (footR b2 os2 ev2) wr w5) (hf : ∀ q, footR b2 os2' ev2' q → footR b2 os2 ev2 q ∨ wr.heap.size ≤ q) (hH : HasR s (stepK s k l[m]) os2') :
    Pair s l W0 w5 b b2 (m + 1) (stepK s k l[m]) (P ++ (stepK s k l[m]).evs) B ev os wr.heap.size ev2' os2' := by
  have hI : ∀ q cs, footR b2 os2 ev2 q → Blk wr q cs 2 → q = b2.gl ∨ b2.vb.ownBlock = some q := fun q cs hq hB => by
    have hl := h.at2
    rcases hq with e | e | e | e | e | e | e | e | ⟨i, e⟩
    · subst e; exact absurd (hB.type hl.box).1 (by decide)
    · subst e; exact absurd (hB.type (show Blk wr b2.gs _ 105 from hl.tab.row)).1 (by decide)
    · subst e; exact absurd (hB.type hl.cache.box).1 (by decide)
    · subst e; exact absurd (hB.type (show Blk wr b2.gj _ 148 from hl.jrow)).1 (by decide)
    · subst e; exact absurd (hB.type (show Blk wr b2.gh _ 36 from hl.hrow)).1 (by decide)
    · exact .inl e
    · exact .inr e
    · obtain ⟨cs2, hB2⟩ := hl.evs.block e
      exact absurd (hB.type hB2).1 (by decide)
    · by_cases hi : i < s.tasks.length
      · obtain ⟨cs2, hB2⟩ := (hl.jobs i hi q e).blk
        exact absurd (hB.type hB2).1 (by decide)
      · have hj := hl.jl
        have : opAt os2 i = none := by
          unfold opAt
          simp [List.getD, List.getElem?_eq_none (show os2.length ≤ i by omega)]
        rw [this] at e; cases e
  refine ⟨hm, h.run.next hs hm, h.at1.far hC h.at2.footT (fun q hq hf => h.apart q hf hq) (fun p hp q hq hf => ?_) (fun q cs hf hB => ?_), h.has1, h.low1, hK, hH, fun q hq => ?_, fun q hq hr => ?_, h.gl, h.regs, h.ext.chg hC h.low2⟩
  · obtain ⟨cs, hB⟩ := OwnL.block (h.at1.tasks.regs p hp) hq
    have hr := h.regs p hp q hq
    rcases hI q cs hf hB with e | e
    · omega
    · have := hr.2 q e; omega
  · rcases hI q cs hf hB with e | e
    · have := h.gl.1; omega
    · exact h.gl.2 q e
  · rcases hf q hq with h1 | h1
    · exact h.low2 q h1
    · have := h.ext.size; omega
  · rcases hf q hr with h1 | h1
    · exact h.apart q hq h1
    · have := foot_lt h.at1 hq; omega
end
end Go.Proofs.YtniejidekflmiaaGreatDoor
/- What KernelSteps asks further. -/
namespace Go.Proofs.YtniejidekflmiaaGreatDoor
open Go.RowKit
attribute [local go_sem] setCell_twice Ext.alloc Ext.drew
set_option linter.unusedSimpArgs false
set_option linter.unusedVariables false
set_option maxRecDepth 100000
set_option maxHeartbeats 1600000
attribute [local irreducible] Calls
theorem tick_any (b : KB) (B : Nat) (s : TSet) (k : KS) (ev : Value) (os : List Ow) (w : World) (h : KAt b B w s k ev os) :
    Calls Tryz.prog 20 #[.pointer (some ⟨b.gk, 0, none⟩)] w fun e w' => e = .returned (.int .i64 k.t) ∧ w = w' := by
  have hbox := h.box
  unfold kcs at hbox
  have hc := hbox.cell
  clear h hbox
  go_enter Tryz.func20, Tryz.ntmps20
  go_wp2_with (fail)
  go_ret
  exact ⟨rfl, by first | trivial | rfl⟩
theorem sts_at2 {w : World} {A : Option Addr} {n c : Nat} {tab : List St} (h : SlR StR 4 Any w (.slice A n c) tab) {k : Nat} (hk : k < tab.length) : ∃ b o, A = some ⟨b, o, none⟩ ∧ ∀ w', Ext w w' → w'.cell? ⟨b, o + k * 4, none⟩ = some (.bool (stAt tab k).pend) ∧ w'.cell? ⟨b, o + k * 4 + 1, none⟩ = some (.bool (stAt tab k).start) ∧ w'.cell? ⟨b, o + k * 4 + 2, none⟩ = some (.bool (stAt tab k).mid) ∧ w'.cell? ⟨b, o + k * 4 + 3, none⟩ = some (.int .i64 (stAt tab k).arr) := by
  obtain ⟨b, o, rfl, hr⟩ := SlR.at h hk
  refine ⟨b, o, rfl, fun w' hx => ?_⟩
  have e : stAt tab k = tab[k] := by unfold stAt; rw [getD_at hk]
  rw [e]
  have hr := hr.ext hx
  exact hr
theorem same21_eq (va vb : Value) (tab : List St) (w : World) (ha : SlR StR 4 Any w va tab) (hb : SlR StR 4 Any w vb tab) :
    Calls Tryz.prog 21 #[va, vb] w fun e w' => e = .returned (.bool true) ∧ Ext w w' := by
  obtain ⟨A, c, rfl, hc1, hc2⟩ := SlR.form ha
  obtain ⟨B, d, rfl, _, _⟩ := SlR.form hb
  unfold maxLen at hc2
  have HA := Lib.hid ha
  have HB := Lib.hid hb
  clear ha hb
  go_enter Tryz.func21, Tryz.ntmps21
  go_wp2_with (fail)
  go_loopw [5] (fun i wr => ∃ k : Nat, k ≤ tab.length ∧ i = .int .i64 k ∧ Ext w wr) (fun i _ => tab.length - (intOf i).toNat)
  case atStart => exact ⟨0, Nat.zero_le _, rfl, Ext.refl w⟩
  case round =>
    obtain ⟨k, hk, rfl, hX⟩ := hrel
    by_cases hlt : k < tab.length
    · obtain ⟨b, o, rfl, hx⟩ := sts_at2 HA.out hlt
      obtain ⟨b', o', rfl, hy⟩ := sts_at2 HB.out hlt
      obtain ⟨x0, x1, x2, x3⟩ := hx wr hX
      obtain ⟨y0, y1, y2, y3⟩ := hy wr hX
      clear hx hy
      generalize stAt tab k = p at *
      obtain ⟨p0, p1, p2, p3⟩ := p
      dsimp only at x0 x1 x2 x3 y0 y1 y2 y3
      go_wp2_with (fail)
      go_quiet (fail)
      go_wp2_with (fail)
      exact ⟨⟨k + 1, hlt, rfl, hX.drewN _⟩, by simp [intOf]; omega⟩
    · have hke : k = tab.length := by omega
      subst hke
      go_wp2_with (fail)
      go_ret
      exact ⟨rfl, hX⟩
theorem new_ker_bad (s : TSet) (v : Value) (w : World) (hv : Tasks w v s.tasks) (hg : s.good) (hG : GOK w) (hb : allB s = false) :
    Calls Tryz.prog 14 #[setV s v] w fun e w' => e = .returned (.tuple #[.pointer none, .int .i64 1]) ∧ Ext w w' := by
  obtain ⟨A, c, rfl, hcc, hcm, hxx⟩ := id hv
  clear hxx
  unfold maxLen at hcm
  have hX1 := (Ext.refl w).alloc (.cells #[.int .i64 s.reload, .slice A s.tasks.length c] 24)
  have hAll := all_any s (.slice A s.tasks.length c) _ (hv.ext hX1) hg (hG.below hX1.below)
  rw [hb] at hAll
  unfold setV at hAll ⊢
  have HAll := Lib.hid hAll
  clear hAll hb hv
  go_enter Tryz.func14, Tryz.ntmps14
  go_wp2_with (fail)
  refine HAll.out.mono ?_
  rintro e W ⟨rfl, hb1⟩
  have hXW := hX1.call hb1
  go_wp2_with (fail)
  refine bodyPost_ret (v := .tuple #[.pointer none, .int .i64 1]) (by simp [results, Tryz.results14, go_sem, *]) rfl ⟨rfl, hXW⟩
theorem new_r25_bad (s : TSet) (v : Value) (w : World) (hv : Tasks w v s.tasks) (hg : s.good) (hb : allB s = false) :
    Calls Tryz.prog 15 #[setV s v] w fun e w' => e = .returned (.tuple #[.pointer none, .int .i64 1]) ∧ Ext w w' := by
  obtain ⟨A, c, rfl, hcc, hcm, hxx⟩ := id hv
  clear hxx
  unfold maxLen at hcm
  have hX1 := (Ext.refl w).alloc (.cells #[.int .i64 s.reload, .slice A s.tasks.length c] 24)
  have hAll := allR_any s (.slice A s.tasks.length c) _ (hv.ext hX1) hg
  rw [hb] at hAll
  unfold setV at hAll ⊢
  have HAll := Lib.hid hAll
  clear hAll hb hv
  go_enter Tryz.func15, Tryz.ntmps15
  go_wp2_with (fail)
  refine HAll.out.mono ?_
  rintro e W ⟨rfl, hb1⟩
  have hXW := hX1.call hb1
  go_wp2_with (fail)
  refine bodyPost_ret (v := .tuple #[.pointer none, .int .i64 1]) (by simp [results, Tryz.results15, go_sem, *]) rfl ⟨rfl, hXW⟩
theorem KInv.last {s : TSet} {P : List Ev} {k : KS} (h : KInv s P k) : -1 ≤ k.last ∧ k.last < s.tasks.length := by
  have := h.lb.inv.curs
  dsimp only at this
  omega
end Go.Proofs.YtniejidekflmiaaGreatDoor
