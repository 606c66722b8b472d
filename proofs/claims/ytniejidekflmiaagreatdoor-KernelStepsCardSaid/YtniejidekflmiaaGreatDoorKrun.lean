/- The kernel: runs. -/
import Derived.Test.YtniejidekflmiaaGreatDoorProg
import Derived.Test.YtniejidekflmiaaGreatDoorBase
import Derived.Test.YtniejidekflmiaaGreatDoorHeldX
import Derived.Test.YtniejidekflmiaaGreatDoorHeldN
import Derived.Test.YtniejidekflmiaaGreatDoorApp
import Derived.Test.YtniejidekflmiaaGreatDoorExt0
import Derived.Test.YtniejidekflmiaaGreatDoorChg
import Derived.Test.YtniejidekflmiaaGreatDoorRowB
import Derived.Test.YtniejidekflmiaaGreatDoorKM
import Derived.Test.YtniejidekflmiaaGreatDoorKP1
import Derived.Test.YtniejidekflmiaaGreatDoorOpenI
import Derived.Test.YtniejidekflmiaaGreatDoorTskP
import Derived.Test.YtniejidekflmiaaGreatDoorKat
import Derived.Test.YtniejidekflmiaaGreatDoorKlate
import Derived.Test.YtniejidekflmiaaGreatDoorKbit
import Derived.Test.YtniejidekflmiaaGreatDoorKn0
import Derived.Test.YtniejidekflmiaaGreatDoorKtur
import Derived.Test.YtniejidekflmiaaGreatDoorKtab
import Derived.Deep.Cut
import Derived.Lib.Hide
import Derived.OwnWalk
import Derived.Maps.AppendAt
import Derived.BigQuiet
import Derived.Laws.Bits64b
import Derived.Laws.Bits128
namespace Go.Proofs.YtniejidekflmiaaGreatDoor
open Go.RowKit
attribute [local go_sem] setCell_twice Ext.alloc Ext.drew
set_option linter.unusedSimpArgs false
set_option linter.unusedVariables false
set_option maxRecDepth 100000
set_option maxHeartbeats 400000
attribute [local irreducible] Calls

theorem and_ecb (u : Int) (x : Nat) (h0 : 0 ≤ u) (h1 : u.toNat < 2 ^ 64) (hx : x < 2 ^ 64) : bits BinOp.and IntKind.u64 (x : Int) u = ((x &&& u.toNat : Nat) : Int) := by
  obtain ⟨n, rfl⟩ := Int.eq_ofNat_of_zero_le h0
  rw [Int.toNat_natCast] at h1 ⊢
  rw [bits_and_u64_nat _ _ (by omega) (by omega)]
/-- a tick of task m's job, its sets touched -/
def runsC (k1 : KS) (now : Nat) : KS :=
  if 0 < k1.load.getD now 0 then { k1 with load := k1.load.set now (k1.load.getD now 0 - 1), tab := k1.tab.set now { stAt k1.tab now with mid := true } }
  else
    let p := (k1.jobs.getD now Jb.zero).step
    let took := k1.t + 1 - (stAt k1.tab now).arr
    let k2 : KS := { k1 with jobs := k1.jobs.set now p.1 }
    let k3 := if p.2.2 = 1 ∨ p.2.2 = 2 then k2.tell 7 now p.2.1 else k2
    if p.2.2 = 2 then { k3.tell 8 now took with tab := k3.tab.set now St.zero, last := -1 }
    else if p.2.2 = 3 then { k3.tell 9 now took with tab := k3.tab.set now St.zero, last := -1 }
    else { k3 with tab := k3.tab.set now { stAt k3.tab now with mid := p.1.mid } }
theorem runsK_C (s : TSet) (k : KS) (m touch : Nat) : runsK s k m touch = runsC { k with own := touchO k.own m (touch &&& (s.tk m).ecb.toNat) } m := rfl
theorem runsC_cases {k1 : KS} {m : Nat} {j2 : Jb} {reg how : Int} (hz : ¬ 0 < k1.load.getD m 0) (hp : (k1.jobs.getD m Jb.zero).step = (j2, reg, how)) :
    (how = 0 → runsC k1 m = { ({ k1 with jobs := k1.jobs.set m j2 } : KS) with tab := k1.tab.set m { stAt k1.tab m with mid := j2.mid } }) ∧
    (how = 1 → runsC k1 m = ({ ({ k1 with jobs := k1.jobs.set m j2 } : KS) with tab := k1.tab.set m { stAt k1.tab m with mid := j2.mid } } : KS).tell 7 m reg) ∧
    (how = 2 → runsC k1 m = { ((({ ({ k1 with jobs := k1.jobs.set m j2 } : KS) with tab := k1.tab.set m { stAt k1.tab m with mid := j2.mid } } : KS).tell 7 m reg).tell 8 m (k1.t + 1 - (stAt k1.tab m).arr)) with tab := k1.tab.set m St.zero, last := -1 }) ∧
    (how = 3 → runsC k1 m = { ((({ ({ k1 with jobs := k1.jobs.set m j2 } : KS) with tab := k1.tab.set m { stAt k1.tab m with mid := j2.mid } } : KS)).tell 9 m (k1.t + 1 - (stAt k1.tab m).arr)) with tab := k1.tab.set m St.zero, last := -1 }) := by
  unfold runsC
  rw [if_neg hz, hp]
  refine ⟨?_, ?_, ?_, ?_⟩ <;> rintro rfl <;> simp [KS.tell]
theorem runs_any (b : KB) (B : Nat) (s : TSet) (k : KS) (ev : Value) (os : List Ow) (P : List Ev) (m touch : Nat) (L : Nat → Prop) (w : World) (hs : KH s) (hu : ∀ i, i < s.tasks.length → 0 ≤ (s.tk i).ucb ∧ 0 ≤ (s.tk i).ecb) (h : KAt b B w s k ev os) (hLI : LInv s P k m) (hlast : k.last = m) (hHP : HasP s k os)
    (hm : m < s.tasks.length) (hp : (stAt k.tab m).pend = true) (hst : (stAt k.tab m).start = true) (htc : touch < 18446744073709551616) (hL : ∀ q, L q → q < w.heap.size) (hlow : ∀ q, foot b os ev q → ¬ L q) (hD : ∀ w', Same L w w' → DB w')
    (ht : k.t ≤ 1099511627776) (hl : k.evs.length ≤ 300) (hB : B ≤ w.heap.size) :
    Calls Tryz.prog 42 #[.pointer (some ⟨b.gk, 0, none⟩), .int .i64 m, .int .u64 touch] w fun e w' => e = .returned (.tuple #[]) ∧ ∃ ev' os', Stp b B s w ev os w' (runsK s k m touch) ev' os' ∧ HasP s (runsK s k m touch) os' := by
  have hT := h.tks
  obtain ⟨A, c, hvt, hcc, hcm, _⟩ := h.tks
  rw [hvt] at hT
  obtain ⟨bt, ot, rr, rfl, hat⟩ := hT.at hm
  have hce := hat.under.2.2.2.2.2.2.2.1
  have hn8 := hs.len.2
  unfold maxLen at hcm
  have hbox := h.box
  unfold kcs at hbox
  rw [hvt] at hbox
  have hc : ∀ w', Ext w w' → ∀ j, w'.cell? ⟨b.gk, j, none⟩ = #[.int .i64 s.reload, .slice (some ⟨bt, ot, none⟩) s.tasks.length c, .int .i64 k.t, .int .i64 k.ran, .pointer (some ⟨b.gp, 0, none⟩), .pointer (some ⟨b.gc, 0, none⟩), .pointer (some ⟨b.gt, 0, none⟩), .slice (some ⟨b.go, 0, none⟩) s.tasks.length s.tasks.length, ev][j]? := fun w' hx => (hbox.ext hx).cell
  have hc0 := hc w (Ext.refl _)
  have hand := and_ecb (s.tasks[m].ecb) touch (by rw [← tk_at s hm]; exact (hu m hm).2) (by rw [← tk_at s hm]; exact (hs.bits m hm).2) htc
  obtain ⟨tt, htt⟩ : ∃ tt, touch &&& (s.tasks[m].ecb).toNat = tt := ⟨_, rfl⟩
  rw [htt] at hand
  have httb : tt < 18446744073709551616 := by rw [← htt]; exact Nat.lt_of_le_of_lt Nat.and_le_left htc
  have hTch := fun w' (hx : Ext w w') => touch_cache b.gc m tt k.own w' (h.ext hx).cache (hD w' (.of_ext hL hx)) (by omega) httb
  have HTch := Lib.hid hTch
  have HTT := Lib.hid htt
  have HK := Lib.hid h
  have HLI := Lib.hid hLI
  have HHP := Lib.hid hHP
  have HP := Lib.hid hp
  have HST := Lib.hid hst
  have HLAST := Lib.hid hlast
  clear hTch htt h hLI hHP hp hst hlast hbox hat hT
  go_enter Tryz.func42, Tryz.ntmps42
  go_upto_region 1 with (fail)
  refine wp_region_text (n := 16) (S := Ext w) (by kernel_rfl) (by kernel_rfl) (Ext.refl w).drew (fun K hK => ?_)
  (repeat (first | (apply hO_and; (· rfl); (· rfl); (· rfl); (· rfl); simp only [Act.put, List.setIfInBounds_toArray, List.set_cons_zero, List.set_cons_succ]) | (apply hO_or; (· rfl); (· rfl); (· rfl); (· rfl); simp only [Act.put, List.setIfInBounds_toArray, List.set_cons_zero, List.set_cons_succ]) | (apply hO_off; (· rfl); (· rfl); simp only [Act.put, List.setIfInBounds_toArray, List.set_cons_zero, List.set_cons_succ]) | (apply hO_val; (· intro w hS; go_simp; with_reducible rfl); (· rfl); simp only [Act.put, List.setIfInBounds_toArray, List.set_cons_zero, List.set_cons_succ]) | (apply hO_call; (· rfl); (· intro w hS; go_simp; exact ⟨rfl, rfl⟩); (· intro w hS; fail); simp only [Act.put, List.setIfInBounds_toArray, List.set_cons_zero, List.set_cons_succ]) | (apply hO_if; (· rfl); (· rfl); (· intro hif w hS; go_simp; with_reducible rfl); simp only [Act.put, List.setIfInBounds_toArray, List.set_cons_zero, List.set_cons_succ]) | (apply hO_ifcall; (· rfl); (· rfl); (· intro hif w hS; go_simp; exact ⟨rfl, rfl⟩); (· intro hif w hS; fail); simp only [Act.put, List.setIfInBounds_toArray, List.set_cons_zero, List.set_cons_succ]))); refine hO_nil ?_
  refine hK _ ?_
  clear hK K
  intro W1 hX1
  simp only [List.drop_succ_cons, List.drop_zero]
  go_wp2_with (fail)
  refine (HTch.out W1 hX1).mono ?_
  rintro e W2 ⟨rfl, hT2, hC2⟩
  have hK2 := (HK.out.ext hX1).setCache hC2 hT2
  have hS2 : Stp b B s w ev os W2 { k with own := touchO k.own m tt } ev os := ⟨hK2, ((Chg.of_ext hX1).trans hC2).to (fun q _ hq => .inr (.inr (.inl hq))), fun q hq => .inl hq⟩
  have hRC : runsK s k m touch = runsC { k with own := touchO k.own m tt } m := by rw [runsK_C, tk_at s hm, HTT.out]
  have hHP1 : HasP s { k with own := touchO k.own m tt } os := HHP.out
  have hjb1 : ∀ (k1 : KS), k1 = { k with own := touchO k.own m tt } → k1.jobs.length = s.tasks.length ∧ k1.load.length = s.tasks.length ∧ k1.tab = k.tab ∧ k1.t = k.t ∧ k1.ran = k.ran ∧ k1.last = m ∧ k1.evs.length ≤ 300 ∧ JOk (s.tk m).regs (k1.jobs.getD m Jb.zero) ∧ (0 ≤ k1.load.getD m 0 ∧ k1.load.getD m 0 ≤ 640000) := fun k1 e => by
    subst e
    have h1 := HLI.out.load m hm
    have h2 := mul_small hs.reload.1 hs.reload.2 (popN_le 64 ((s.tk m).ucb.toNat))
    refine ⟨HLI.out.lj, HLI.out.ll, rfl, rfl, rfl, HLAST.out, hl, HLI.out.job m hm HP.out, h1.1, Int.le_trans h1.2 h2.2⟩
  have HRC := Lib.hid hRC
  generalize hk1 : ({ k with own := touchO k.own m tt } : KS) = k1 at *
  obtain ⟨f1, f2, f3, f4, f5, f6, f7, f8, f9, f10⟩ := hjb1 k1 rfl
  have hrl : m < os.length := by rw [hK2.rl]; exact hm
  have how : owAt os m = os[m] := getD_at hrl _
  have hld : os[m].load = k1.load.getD m 0 := by rw [← how]; exact (hK2.loose m hm (by rw [f3]; exact HST.out)).1
  have hr2 := hK2.row.at encOw_len (i := m) (j := 2) hrl (by decide)
  have hr0 := hK2.row.at encOw_len (i := m) (j := 0) hrl (by decide)
  have hf := fun j => hK2.row.free j
  simp only [encOw, List.getElem?_cons_zero, List.getElem?_cons_succ, Nat.add_zero] at hr2 hr0
  rw [hld] at hr2
  have htl : m < k1.tab.length := by rw [f3, HLI.out.lt]; exact hm
  have hpm : (stAt k1.tab m).pend = true := by rw [f3]; exact HP.out
  have hsm : (stAt k1.tab m).start = true := by rw [f3]; exact HST.out
  obtain ⟨gj, hgj⟩ := (hHP1 m hm hpm).1
  rw [how] at hgj
  have hbox2 := hK2.box
  unfold kcs at hbox2
  rw [hvt, f4, f5] at hbox2
  have hc2 : ∀ w', Ext W2 w' → ∀ j, w'.cell? ⟨b.gk, j, none⟩ = #[.int .i64 s.reload, .slice (some ⟨bt, ot, none⟩) s.tasks.length c, .int .i64 k.t, .int .i64 k.ran, .pointer (some ⟨b.gp, 0, none⟩), .pointer (some ⟨b.gc, 0, none⟩), .pointer (some ⟨b.gt, 0, none⟩), .slice (some ⟨b.go, 0, none⟩) s.tasks.length s.tasks.length, ev][j]? := fun w' hx => (hbox2.ext hx).cell
  have hc20 := hc2 W2 (Ext.refl _)
  have HK2 := Lib.hid hK2
  have HS2 := Lib.hid hS2
  have HHP1 := Lib.hid hHP1
  have HPM := Lib.hid hpm
  have HSM := Lib.hid hsm
  have HOW := Lib.hid how
  have HLD := Lib.hid hld
  have HF3 := Lib.hid f3
  have HF4 := Lib.hid f4
  have HF5 := Lib.hid f5
  have HF6 := Lib.hid f6
  clear hRC hHP1 hjb1 hk1 hK2 hS2 hT2 hC2 hX1 hbox2 how hld hpm hsm f3 f4 f5 f6 hc hc0 hce hand
  by_cases hz : 0 < k1.load.getD m 0
  · have hE := HRC.out
    unfold runsC at hE
    rw [if_pos hz] at hE
    have HE := Lib.hid hE
    have HOS := HLD
    clear hE
    generalize k1.load.getD m 0 = lv at *
    have hzd : decide (0 < lv) = true := decide_eq_true hz
    have hwr : wrap64 (lv - 1) = lv - 1 := by unfold wrap64; omega
    have hput := HK2.out.row.set encOw_len (i := m) (j := 2) (u := .int .i64 (lv - 1)) (x' := { os[m] with load := lv - 1 }) (by decide) (fun _ => rfl)
    have hchg := (Chg.refl (fun q => q = b.go) W2).set (g := b.go) (i := m * 3 + 2) (.inl rfl) (.int .i64 (lv - 1))
    have hpp : ∀ i, (owAt (os.set m { os[m] with load := lv - 1 }) i).p = (owAt os i).p ∧ (owAt (os.set m { os[m] with load := lv - 1 }) i).had = (owAt os i).had := fun i => by
      rw [owAt_set hrl]
      by_cases e : m = i
      · subst e; rw [if_pos rfl, HOW.out]; exact ⟨rfl, rfl⟩
      · rw [if_neg e]; exact ⟨rfl, rfl⟩
    have hK3 := HK2.out.setRow (had := k1.had) (load := k1.load.set m (lv - 1)) hchg hput (by rw [List.length_set]) (fun i => (hpp i).1) (fun i hi hsi => by
      refine ⟨?_, fun hmi => by rw [(hpp i).2]; exact (HK2.out.loose i hi hsi).2 hmi⟩
      rw [owAt_set hrl, getD_set (by omega)]
      by_cases e : m = i
      · rw [if_pos e, if_pos e]
      · rw [if_neg e, if_neg e]; exact (HK2.out.loose i hi hsi).1)
    have hS3 : Stp b B s W2 ev os _ _ ev (os.set m { os[m] with load := lv - 1 }) := ⟨hK3, hchg.to (fun q _ hq => .inr (.inr (.inr (.inl hq)))), fun q hq => by
      rcases hq with h | h | h | h | h | h | ⟨i, h⟩
      · exact .inl (.inl h)
      · exact .inl (.inr (.inl h))
      · exact .inl (.inr (.inr (.inl h)))
      · exact .inl (.inr (.inr (.inr (.inl h))))
      · exact .inl (.inr (.inr (.inr (.inr (.inl h)))))
      · exact .inl (.inr (.inr (.inr (.inr (.inr (.inl h))))))
      · rw [(hpp i).1] at h
        exact .inl (.inr (.inr (.inr (.inr (.inr (.inr ⟨i, h⟩))))))⟩
    have HK3 := Lib.hid hK3
    have HS3 := Lib.hid hS3
    have HPP := Lib.hid hpp
    have hbox3 := hK3.box
    unfold kcs at hbox3
    have hc3 := hbox3.cell
    have hMid := mid_tab b.gt b.gs k1.tab m true _ hK3.tab htl
    have HMid := Lib.hid hMid
    clear hput hchg hpp hK3 hS3 hbox3 hMid
    go_wp2_with (fail)
    refine HMid.out.mono ?_
    rintro e W5 ⟨rfl, hT5, hC5⟩
    have hmod : modT k1.tab m (fun x => { x with mid := true }) = k1.tab.set m { stAt k1.tab m with mid := true } := modT_on _ HPM.out
    rw [hmod] at hT5
    have hK5 := HK3.out.setTab hC5 hT5 (fun i hi hsi => by
      have hsi2 : (stAt (k1.tab.set m { stAt k1.tab m with mid := true }) i).start = true := hsi
      refine HK3.out.loose i hi ?_
      show (stAt k1.tab i).start = true
      rw [stAt_set htl] at hsi2
      by_cases e : m = i
      · subst e; exact HSM.out
      · rw [if_neg e] at hsi2; exact hsi2)
    have hS6 := (HS2.out.trans HS3.out).trans (⟨hK5, hC5.to (fun q _ hq => .inr (.inl hq)), fun q hq => .inl hq⟩ : Stp b B s _ ev _ W5 _ ev _)
    have hS7 := hS6.state (k2 := runsK s k m touch) HE.out.symm
    have hhp : HasP s (runsK s k m touch) (os.set m { os[m] with load := lv - 1 }) := by
      rw [HE.out]
      intro i hi hpi
      have hpi2 : (stAt (k1.tab.set m { stAt k1.tab m with mid := true }) i).pend = true := hpi
      rw [stAt_set htl] at hpi2
      rw [(HPP.out i).1]
      by_cases e : m = i
      · subst e
        refine ⟨(HHP1.out m hm HPM.out).1, fun hsi => ?_⟩
        have hsi2 : (stAt (k1.tab.set m { stAt k1.tab m with mid := true }) m).start = false := hsi
        rw [stAt_set htl, if_pos rfl] at hsi2
        have h3 := HSM.out
        rw [show (stAt k1.tab m).start = false from hsi2] at h3
        cases h3
      · rw [if_neg e] at hpi2
        refine ⟨(HHP1.out i hi hpi2).1, fun hsi => ?_⟩
        have hsi2 : (stAt (k1.tab.set m { stAt k1.tab m with mid := true }) i).start = false := hsi
        rw [stAt_set htl, if_neg e] at hsi2
        rw [owAt_set hrl, if_neg e]
        exact (HHP1.out i hi hpi2).2 hsi2
    have HS7 := Lib.hid hS7
    have HHP7 := Lib.hid hhp
    clear hS6 hS7 hhp hK5 hT5 hC5
    go_wp2_with (fail)
    exact bodyPost_ret (v := .tuple #[]) (results_none Tryz.results42 _ _ _) rfl ⟨rfl, ev, _, HS7.out, HHP7.out⟩
  · have hCas := fun j2 reg how (h : (k1.jobs.getD m Jb.zero).step = (j2, reg, how)) => runsC_cases (m := m) hz h
    rw [← HRC.out] at hCas
    have hlz : k1.load.getD m 0 = 0 := by omega
    rw [hlz] at hr2
    have hJ := HK2.out.jobs m hm gj (by rw [HOW.out]; exact hgj)
    have hrg := hs.regs m hm
    have hStp := step_job b.base gj (s.tk m).regs (k1.jobs.getD m Jb.zero) W2 hJ f8 hrg.2.2 hrg.2.1
    have hcas := f8.step (fun x hx => (hrg.2.2 x hx).1)
    have hptr : os[m].ptr = .pointer (some ⟨gj, 0, none⟩) := by unfold Ow.ptr; rw [hgj]; rfl
    rw [hptr] at hr0
    have HStp := Lib.hid hStp
    have HJ := Lib.hid hJ
    have HJL := Lib.hid f1
    have HGJ := Lib.hid (show (owAt os m).p = some gj by rw [HOW.out]; exact hgj)
    have harr := HLI.out.arr m hm HP.out
    rw [← HF3.out] at harr
    have hh0 : ∀ w', Chg (fun q => q = gj) W2 w' → w'.cell? ⟨b.go, m * 3, none⟩ = some (.pointer (some ⟨gj, 0, none⟩)) := fun w' hc => by
      obtain ⟨cs, hB⟩ := HJ.out.blk
      exact cell_chg hr0 hc (fun e => by
        subst e
        have := (Blk.type hB (show Blk W2 _ _ 133 from HK2.out.row)).1
        exact absurd this (by decide))
    generalize hpp : (k1.jobs.getD m Jb.zero).step = p at *
    obtain ⟨j2, reg, how⟩ := p
    dsimp only at HStp hcas
    obtain ⟨hE0, hE1, hE2, hE3⟩ := hCas j2 reg how rfl
    have HE0 := Lib.hid hE0
    have HE1 := Lib.hid hE1
    have HE2 := Lib.hid hE2
    have HE3 := Lib.hid hE3
    clear hCas hE0 hE1 hE2 hE3
    clear hStp hJ f1 hptr hgj
    go_wp2_with (fail)
    refine HStp.out.mono ?_
    rintro e W3 ⟨rfl, hJ3, hC3⟩
    have hK3 := HK2.out.setJob (x := j2) hm HJL.out HGJ.out hC3 hJ3
    have hS3 := HS2.out.trans (⟨hK3, hC3.to (fun q _ hq => .inr (.inr (.inr (.inr (.inr (.inr ⟨m, by rw [HGJ.out, hq]⟩)))))), fun q hq => .inl hq⟩ : Stp b B s W2 ev os W3 _ ev os)
    have hr03 := hh0 W3 hC3
    have hbox3 := hK3.box
    unfold kcs at hbox3
    rw [hvt] at hbox3
    dsimp only at hbox3
    rw [HF4.out, HF5.out] at hbox3
    have hc3 : ∀ w', Ext W3 w' → ∀ j, w'.cell? ⟨b.gk, j, none⟩ = #[.int .i64 s.reload, .slice (some ⟨bt, ot, none⟩) s.tasks.length c, .int .i64 k.t, .int .i64 k.ran, .pointer (some ⟨b.gp, 0, none⟩), .pointer (some ⟨b.gc, 0, none⟩), .pointer (some ⟨b.gt, 0, none⟩), .slice (some ⟨b.go, 0, none⟩) s.tasks.length s.tasks.length, ev][j]? := fun w' hx => (hbox3.ext hx).cell
    have hr0e := fun w' (hx : Ext W3 w') => hx.cell hr03
    have hMj := fun w' (hx : Ext W3 w') => mid_job b.base gj j2 w' (hJ3.ext hx)
    have hMt := fun w' (hx : Ext W3 w') => mid_tab b.gt b.gs k1.tab m j2.mid w' (hK3.ext hx).tab htl
    have hmod : modT k1.tab m (fun x => { x with mid := j2.mid }) = k1.tab.set m { stAt k1.tab m with mid := j2.mid } := modT_on _ HPM.out
    rw [hmod] at hMt
    have HMj := Lib.hid hMj
    have HMt := Lib.hid hMt
    have HK3 := Lib.hid hK3
    have HS3 := Lib.hid hS3
    clear hMj hMt hK3 hS3 hbox3 hc20 hc2 hr2 hr0 hr03 hh0 hJ3 hC3 hmod
    go_upto_region 6 with (fail)
    refine wp_region_text (n := 10) (S := Ext W3) (by kernel_rfl) (by kernel_rfl) (Ext.refl W3).drew (fun K hK => ?_)
    (repeat (first | (apply hO_and; (· rfl); (· rfl); (· rfl); (· rfl); simp only [Act.put, List.setIfInBounds_toArray, List.set_cons_zero, List.set_cons_succ]) | (apply hO_or; (· rfl); (· rfl); (· rfl); (· rfl); simp only [Act.put, List.setIfInBounds_toArray, List.set_cons_zero, List.set_cons_succ]) | (apply hO_off; (· rfl); (· rfl); simp only [Act.put, List.setIfInBounds_toArray, List.set_cons_zero, List.set_cons_succ]) | (apply hO_val; (· intro w hS; go_simp; with_reducible rfl); (· rfl); simp only [Act.put, List.setIfInBounds_toArray, List.set_cons_zero, List.set_cons_succ]) | (apply hO_call; (· rfl); (· intro w hS; go_simp; exact ⟨rfl, rfl⟩); (· intro w hS; exact callS hS (HMj.out _ hS)); simp only [Act.put, List.setIfInBounds_toArray, List.set_cons_zero, List.set_cons_succ]) | (apply hO_if; (· rfl); (· rfl); (· intro hif w hS; go_simp; with_reducible rfl); simp only [Act.put, List.setIfInBounds_toArray, List.set_cons_zero, List.set_cons_succ]) | (apply hO_ifcall; (· rfl); (· rfl); (· intro hif w hS; go_simp; exact ⟨rfl, rfl⟩); (· intro hif w hS; exact callS hS (HMj.out _ hS)); simp only [Act.put, List.setIfInBounds_toArray, List.set_cons_zero, List.set_cons_succ]))); refine hO_nil ?_
    refine hK _ ?_
    clear hK K
    intro W4 hX4
    simp only [List.drop_succ_cons, List.drop_zero]
    go_wp2_with (fail)
    refine (HMt.out W4 hX4).mono ?_
    rintro e W5 ⟨rfl, hT5, hC5⟩
    have hK5 := (HK3.out.ext hX4).setTab hC5 hT5 (fun i hi hsi => by
      have hsi2 : (stAt (k1.tab.set m { stAt k1.tab m with mid := j2.mid }) i).start = true := hsi
      refine HK3.out.loose i hi ?_
      show (stAt k1.tab i).start = true
      rw [stAt_set htl] at hsi2
      by_cases e : m = i
      · subst e; exact HSM.out
      · rw [if_neg e] at hsi2; exact hsi2)
    have hS5 := (HS3.out.ext hX4).trans (⟨hK5, hC5.to (fun q _ hq => .inr (.inl hq)), fun q hq => .inl hq⟩ : Stp b B s W4 ev os W5 _ ev os)
    have HK5 := Lib.hid hK5
    have HS5 := Lib.hid hS5
    clear hK5 hS5 hT5 hC5
    have hT0 := HLI.out.t
    have hkt : ({ ({ k1 with jobs := k1.jobs.set m j2 } : KS) with tab := k1.tab.set m { stAt k1.tab m with mid := j2.mid } } : KS).t = k.t := HF4.out
    have hSt7 := fun w' (hx : Ext W5 w') => state_any b B s _ ev os m w' (HK5.out.ext hx) (fun hpf => by
      have hpf2 : (stAt (k1.tab.set m { stAt k1.tab m with mid := j2.mid }) m).pend = false := hpf
      rw [stAt_set htl, if_pos rfl] at hpf2
      have h3 := HPM.out
      rw [show (stAt k1.tab m).pend = false from hpf2] at h3
      cases h3)
    have hx7 : stAt (k1.tab.set m { stAt k1.tab m with mid := j2.mid }) m = ⟨(stAt k1.tab m).pend, (stAt k1.tab m).start, j2.mid, (stAt k1.tab m).arr⟩ := by rw [stAt_set htl, if_pos rfl]
    dsimp only at hSt7
    rw [hx7] at hSt7
    unfold stV at hSt7
    dsimp only at hSt7
    have HSt7 := Lib.hid hSt7
    have hfld := field_arr (stAt k1.tab m).pend (stAt k1.tab m).start j2.mid (stAt k1.tab m).arr
    obtain ⟨ha1, ha2, _⟩ := harr
    have hT4 := HF4.out
    have hbox5 := HK5.out.box
    unfold kcs at hbox5
    rw [hvt] at hbox5
    dsimp only at hbox5
    rw [HF4.out, HF5.out] at hbox5
    have hc5 : ∀ w', Ext W5 w' → ∀ j, w'.cell? ⟨b.gk, j, none⟩ = #[.int .i64 s.reload, .slice (some ⟨bt, ot, none⟩) s.tasks.length c, .int .i64 k.t, .int .i64 k.ran, .pointer (some ⟨b.gp, 0, none⟩), .pointer (some ⟨b.gc, 0, none⟩), .pointer (some ⟨b.gt, 0, none⟩), .slice (some ⟨b.go, 0, none⟩) s.tasks.length s.tasks.length, ev][j]? := fun w' hx => (hbox5.ext hx).cell
    have hevl : k1.evs.length ≤ 300 := f7
    have hw1 : IntKind.i64.wrap (k.t + 1) = k.t + 1 := by rw [IntKind.wrap_i64]; omega
    have hw2 : IntKind.i64.wrap (k.t + 1 - (stAt k1.tab m).arr) = k.t + 1 - (stAt k1.tab m).arr := by rw [IntKind.wrap_i64]; omega
    have hw3 : wrap64 (k.t + 1) = k.t + 1 := by unfold wrap64; omega
    have hw4 : wrap64 (k.t + 1 - (stAt k1.tab m).arr) = k.t + 1 - (stAt k1.tab m).arr := by unfold wrap64; omega
    have HCAS := Lib.hid hcas
    clear hSt7 hx7 hbox5 hc3 hr0e hcas
    go_upto_region 7 with (fail)
    refine wp_region_all (S := Ext W5) (by kernel_rfl) (by kernel_rfl) (Ext.refl W5).drew (fun K hK => ?_); (repeat (first | (apply hO_and; (· rfl); (· rfl); (· rfl); (· rfl); simp only [Act.put, List.setIfInBounds_toArray, List.set_cons_zero, List.set_cons_succ]) | (apply hO_or; (· rfl); (· rfl); (· rfl); (· rfl); simp only [Act.put, List.setIfInBounds_toArray, List.set_cons_zero, List.set_cons_succ]) | (apply hO_off; (· rfl); (· rfl); simp only [Act.put, List.setIfInBounds_toArray, List.set_cons_zero, List.set_cons_succ]) | (apply hO_val; (· intro w hS; go_simp; with_reducible rfl); (· rfl); simp only [Act.put, List.setIfInBounds_toArray, List.set_cons_zero, List.set_cons_succ]) | (apply hO_call; (· rfl); (· intro w hS; go_simp; exact ⟨rfl, rfl⟩); (· intro w hS; exact callE hS (HSt7.out _ hS)); simp only [Act.put, List.setIfInBounds_toArray, List.set_cons_zero, List.set_cons_succ]) | (apply hO_if; (· rfl); (· rfl); (· intro hif w hS; go_simp; with_reducible rfl); simp only [Act.put, List.setIfInBounds_toArray, List.set_cons_zero, List.set_cons_succ]) | (apply hO_ifcall; (· rfl); (· rfl); (· intro hif w hS; go_simp; exact ⟨rfl, rfl⟩); (· intro hif w hS; exact callE hS (HSt7.out _ hS)); simp only [Act.put, List.setIfInBounds_toArray, List.set_cons_zero, List.set_cons_succ]))); refine hO_nil ?_; refine hK _ ?_; clear hK K
    intro W6 hX6
    have hc60 := hc5 W6 hX6
    have hS6 := HS5.out.ext hX6
    have HS6 := Lib.hid hS6
    have HK6 := Lib.hid hS6.at'
    have hHPm : HasP s { ({ k1 with jobs := k1.jobs.set m j2 } : KS) with tab := k1.tab.set m { stAt k1.tab m with mid := j2.mid } } os := fun i hi hpi => by
      have hpi2 : (stAt (k1.tab.set m { stAt k1.tab m with mid := j2.mid }) i).pend = true := hpi
      rw [stAt_set htl] at hpi2
      by_cases e : m = i
      · subst e
        refine ⟨(HHP1.out m hm HPM.out).1, fun hsi => ?_⟩
        have hsi2 : (stAt (k1.tab.set m { stAt k1.tab m with mid := j2.mid }) m).start = false := hsi
        rw [stAt_set htl, if_pos rfl] at hsi2
        have h3 := HSM.out
        rw [show (stAt k1.tab m).start = false from hsi2] at h3
        cases h3
      · rw [if_neg e] at hpi2
        refine ⟨(HHP1.out i hi hpi2).1, fun hsi => ?_⟩
        have hsi2 : (stAt (k1.tab.set m { stAt k1.tab m with mid := j2.mid }) i).start = false := hsi
        rw [stAt_set htl, if_neg e] at hsi2
        exact (HHP1.out i hi hpi2).2 hsi2
    have hHPz : HasP s { k1 with tab := k1.tab.set m St.zero } os := fun i hi hpi => by
      have hpi2 : (stAt (k1.tab.set m St.zero) i).pend = true := hpi
      rw [stAt_set htl] at hpi2
      by_cases e : m = i
      · rw [if_pos e] at hpi2; cases hpi2
      · rw [if_neg e] at hpi2
        refine ⟨(HHP1.out i hi hpi2).1, fun hsi => ?_⟩
        have hsi2 : (stAt (k1.tab.set m St.zero) i).start = false := hsi
        rw [stAt_set htl, if_neg e] at hsi2
        exact (HHP1.out i hi hpi2).2 hsi2
    have HHPm := Lib.hid hHPm
    have HHPz := Lib.hid hHPz
    have hsz6 : B ≤ W6.heap.size := by have := hS6.chg.size; omega
    clear hHPm hHPz hS6
    rcases HCAS.out with ⟨c1, -⟩ | ⟨c1, -⟩ | ⟨c1, -⟩ | ⟨c1, -⟩
    · subst c1
      have hE := HE0.out rfl
      have hS7 := HS6.out.state (k2 := runsK s k m touch) hE.symm
      have hhp : HasP s (runsK s k m touch) os := by rw [hE]; exact HHPm.out
      have HS7 := Lib.hid hS7
      have HHP7 := Lib.hid hhp
      clear hS7 hhp hE
      go_wp2_with (fail)
      exact bodyPost_end (v := .tuple #[]) (results_none Tryz.results42 _ _ _) rfl ⟨rfl, ev, os, HS7.out, HHP7.out⟩
    · subst c1
      have hE := HE1.out rfl
      have HE := Lib.hid hE
      clear hE
      go_wp2_with (fail)
      refine (notes_any b B s _ ev os 7 m reg W6 HK6.out (by dsimp only; omega) hsz6).mono ?_
      rintro e W7 ⟨rfl, ev7, hS7⟩
      have hS8 := (HS6.out.trans hS7).state (k2 := runsK s k m touch) HE.out.symm
      have hhp : HasP s (runsK s k m touch) os := by rw [HE.out]; exact HHPm.out
      have HS8 := Lib.hid hS8
      have HHP8 := Lib.hid hhp
      clear hS7 hS8 hhp
      go_wp2_with (fail)
      exact bodyPost_end (v := .tuple #[]) (results_none Tryz.results42 _ _ _) rfl ⟨rfl, ev7, os, HS8.out, HHP8.out⟩
    · subst c1
      have hE := HE2.out rfl
      have HE := Lib.hid hE
      clear hE
      go_wp2_with (fail)
      refine (notes_any b B s _ ev os 7 m reg W6 HK6.out (by dsimp only; omega) hsz6).mono ?_
      rintro e W7 ⟨rfl, ev7, hS7⟩
      have hbox7 := hS7.at'.box
      unfold kcs at hbox7
      simp only [KS.tell] at hbox7
      have hc7 := hbox7.cell
      clear hbox7 hc60
      go_wp2_with (fail)
      refine (notes_any b B s _ ev7 os 8 m (k.t + 1 - (stAt k1.tab m).arr) W7 hS7.at' (by show (k1.evs ++ [_]).length ≤ 1000; rw [List.length_append, List.length_singleton]; omega) (by have := hS7.chg.size; omega)).mono ?_
      rintro e W8 ⟨rfl, ev8, hS8⟩
      have HS8 := Lib.hid ((HS6.out.trans hS7).trans hS8)
      have HK8 := Lib.hid hS8.at'
      have hbox8 := hS8.at'.box
      unfold kcs at hbox8
      simp only [KS.tell] at hbox8
      have hc8 := hbox8.cell
      have htl9 : m < (k1.tab.set m { stAt k1.tab m with mid := j2.mid }).length := by rw [List.length_set]; exact htl
      have hDr := drop_tab b.gt b.gs (k1.tab.set m { stAt k1.tab m with mid := j2.mid }) m W8 HK8.out.tab htl9
      have hmod9 : modT (k1.tab.set m { stAt k1.tab m with mid := j2.mid }) m (fun _ => St.zero) = k1.tab.set m St.zero := by
        rw [modT_on _ (by rw [stAt_set htl, if_pos rfl]; exact HPM.out), List.set_set]
      rw [hmod9] at hDr
      have HDr := Lib.hid hDr
      clear hDr hbox8 hmod9 hS8
      go_wp2_with (fail)
      refine HDr.out.mono ?_
      rintro e W10 ⟨rfl, hT10, hC10⟩
      have hloo : ∀ i, i < s.tasks.length → (stAt (k1.tab.set m St.zero) i).start = true → (owAt os i).load = k1.load.getD i 0 ∧ (owAt os i).had = k1.had.getD i 0 := fun i hi hsi => by
        rw [stAt_set htl] at hsi
        by_cases e : m = i
        · rw [if_pos e] at hsi; cases hsi
        · rw [if_neg e] at hsi
          have h2 := HK2.out.loose i hi hsi
          exact ⟨h2.1, h2.2 (by rw [HF6.out]; omega)⟩
      have hK10 := (HK8.out.setTab hC10 hT10 (fun i hi hsi => ⟨(hloo i hi hsi).1, fun _ => (hloo i hi hsi).2⟩)).setLast (-1) (fun i hi hsi _ => (hloo i hi hsi).2)
      have hS10 := HS8.out.trans (⟨hK10, hC10.to (fun q _ hq => .inr (.inl hq)), fun q hq => .inl hq⟩ : Stp b B s W8 ev8 os W10 _ ev8 os)
      have hS11 := hS10.state (k2 := runsK s k m touch) (by rw [HE.out, HF4.out])
      have hhp : HasP s (runsK s k m touch) os := by rw [HE.out]; exact HHPz.out
      have HS11 := Lib.hid hS11
      have HHP11 := Lib.hid hhp
      clear hS10 hS11 hhp hK10 hT10 hC10 hloo
      go_wp2_with (fail)
      exact bodyPost_end (v := .tuple #[]) (results_none Tryz.results42 _ _ _) rfl ⟨rfl, ev8, os, HS11.out, HHP11.out⟩
    · subst c1
      have hE := HE3.out rfl
      have HE := Lib.hid hE
      clear hE
      go_wp2_with (fail)
      refine (notes_any b B s _ ev os 9 m (k.t + 1 - (stAt k1.tab m).arr) W6 HK6.out (by dsimp only; omega) hsz6).mono ?_
      rintro e W8 ⟨rfl, ev8, hS8⟩
      have HS8 := Lib.hid (HS6.out.trans hS8)
      have HK8 := Lib.hid hS8.at'
      have hbox8 := hS8.at'.box
      unfold kcs at hbox8
      simp only [KS.tell] at hbox8
      have hc8 := hbox8.cell
      have htl9 : m < (k1.tab.set m { stAt k1.tab m with mid := j2.mid }).length := by rw [List.length_set]; exact htl
      have hDr := drop_tab b.gt b.gs (k1.tab.set m { stAt k1.tab m with mid := j2.mid }) m W8 HK8.out.tab htl9
      have hmod9 : modT (k1.tab.set m { stAt k1.tab m with mid := j2.mid }) m (fun _ => St.zero) = k1.tab.set m St.zero := by
        rw [modT_on _ (by rw [stAt_set htl, if_pos rfl]; exact HPM.out), List.set_set]
      rw [hmod9] at hDr
      have HDr := Lib.hid hDr
      clear hDr hbox8 hmod9 hS8
      go_wp2_with (fail)
      refine HDr.out.mono ?_
      rintro e W10 ⟨rfl, hT10, hC10⟩
      have hloo : ∀ i, i < s.tasks.length → (stAt (k1.tab.set m St.zero) i).start = true → (owAt os i).load = k1.load.getD i 0 ∧ (owAt os i).had = k1.had.getD i 0 := fun i hi hsi => by
        rw [stAt_set htl] at hsi
        by_cases e : m = i
        · rw [if_pos e] at hsi; cases hsi
        · rw [if_neg e] at hsi
          have h2 := HK2.out.loose i hi hsi
          exact ⟨h2.1, h2.2 (by rw [HF6.out]; omega)⟩
      have hK10 := (HK8.out.setTab hC10 hT10 (fun i hi hsi => ⟨(hloo i hi hsi).1, fun _ => (hloo i hi hsi).2⟩)).setLast (-1) (fun i hi hsi _ => (hloo i hi hsi).2)
      have hS10 := HS8.out.trans (⟨hK10, hC10.to (fun q _ hq => .inr (.inl hq)), fun q hq => .inl hq⟩ : Stp b B s W8 ev8 os W10 _ ev8 os)
      have hS11 := hS10.state (k2 := runsK s k m touch) (by rw [HE.out, HF4.out])
      have hhp : HasP s (runsK s k m touch) os := by rw [HE.out]; exact HHPz.out
      have HS11 := Lib.hid hS11
      have HHP11 := Lib.hid hhp
      clear hS10 hS11 hhp hK10 hT10 hC10 hloo
      go_wp2_with (fail)
      exact bodyPost_end (v := .tuple #[]) (results_none Tryz.results42 _ _ _) rfl ⟨rfl, ev8, os, HS11.out, HHP11.out⟩
end Go.Proofs.YtniejidekflmiaaGreatDoor
/- The kernel: a tick. -/
namespace Go.Proofs.YtniejidekflmiaaGreatDoor
open Go.RowKit
attribute [local go_sem] setCell_twice Ext.alloc Ext.drew
set_option linter.unusedSimpArgs false
set_option linter.unusedVariables false
set_option maxRecDepth 100000
set_option maxHeartbeats 400000
attribute [local irreducible] Calls

theorem heldS_link {s : TSet} {k : KS} (h : Link k) (hr : -1 ≤ k.ran) : chooseS s k.tab k.ran k.t = chooseS s k.tab k.last k.t := by
  unfold Link at h
  by_cases hc : 0 ≤ k.ran ∧ (stAt k.tab k.ran.toNat).start = true
  · rw [if_pos hc] at h; rw [h]
  · rw [if_neg hc] at h
    have e1 : heldS s k.tab k.ran k.t = false := by
      unfold heldS
      by_cases h0 : 0 ≤ k.ran
      · have : (stAt k.tab k.ran.toNat).start = false := by
          cases hs : (stAt k.tab k.ran.toNat).start with
          | false => rfl
          | true => exact absurd ⟨h0, hs⟩ hc
        rw [this]
        simp
      · rw [decide_eq_false h0]; rfl
    have e2 : heldS s k.tab k.last k.t = false := by
      unfold heldS
      rw [h, decide_eq_false (by omega)]; rfl
    unfold chooseS
    rw [e1, e2]
    rfl
theorem Link.late {s : TSet} {k : KS} (h : Link k) : Link (lateK s k) ∧ (lateK s k).ran = k.ran := by
  have : (lateK s k).tab = k.tab ∧ (lateK s k).ran = k.ran ∧ (lateK s k).last = k.last := by
    unfold lateK
    refine fold_range (fun k' => k'.tab = k.tab ∧ k'.ran = k.ran ∧ k'.last = k.last) (late1 s) _ k ⟨rfl, rfl, rfl⟩ fun k' i hi h => ?_
    unfold late1
    split
    · exact h
    · exact h
  obtain ⟨h1, h2, h3⟩ := this
  refine ⟨?_, h2⟩
  unfold Link
  rw [h1, h2, h3]
  exact h
theorem Link.arrive {s : TSet} (hs : KH s) {P : List Ev} {k : KS} (hL : LB s P k) (h : Link k) (hr2 : k.ran < s.tasks.length) (x : Inp) : Link (arriveK s x k) ∧ (arriveK s x k).ran = k.ran := by
  have : LB s P (arriveK s x k) ∧ Link (arriveK s x k) ∧ (arriveK s x k).ran = k.ran := by
    unfold arriveK
    refine fold_range (fun k' => LB s P k' ∧ Link k' ∧ k'.ran = k.ran) (arrive1 s x) _ k ⟨hL, h, rfl⟩ fun k' i hi h => ?_
    unfold arrive1
    split
    · exact h
    · split
      · exact ⟨h.1.tell (.inl rfl) (okEv_task (by omega) (by omega)), h.2⟩
      · split
        · exact ⟨h.1.tell (.inl rfl) (okEv_task (by omega) (by omega)), h.2⟩
        · rename_i hp
          have hpf : (stAt k'.tab i).pend = false := by simpa using hp
          refine ⟨h.1.admit hs x hi hpf, ?_, h.2.2⟩
          have hz := h.1.inv.zero i hi hpf
          have hl := h.1.inv.lt
          have h2 := h.2.1
          unfold Link at h2 ⊢
          show k'.last = if 0 ≤ k'.ran ∧ (stAt (k'.tab.set i ⟨true, false, false, k'.t⟩) k'.ran.toNat).start = true then k'.ran else -1
          rw [stAt_set (by omega)]
          by_cases e : i = k'.ran.toNat
          · rw [if_pos e]
            rw [← e, hz] at h2
            exact h2
          · rw [if_neg e]; exact h2
  exact this.2
/-- a tick from the choice on -/
def stepE (s : TSet) (k1 : KS) (x : Inp) : KS :=
  let now := chooseS s k1.tab k1.last k1.t
  let k2 := if now = -1 then k1.tell 10 (-1) 0 else runsK s { turnK s k1 now.toNat with last := now } now.toNat x.touch
  { k2 with ran := now, t := k2.t + 1 }
/-- the events are taken away -/
theorem KAt.clear {b : KB} {B B' : Nat} {w : World} {s : TSet} {k : KS} {ev : Value} {os : List Ow} (h : KAt b B w s k ev os) : KAt b B' (w.setCell ⟨b.gk, 8, none⟩ (.slice none 0 0)) s { k with evs := [] } (.slice none 0 0) os := by
  have hc := (Chg.refl (fun q => q = b.gk) w).set (g := b.gk) (i := 8) (.inl rfl) (.slice none 0 0)
  have hF := FT.one h.box
  have hb := Blk.set h.box 8 (.slice none 0 0)
  exact { h with
    box := hb, tasks := h.kTasks hc hF rfl rfl, pol := h.kPol hc hF rfl rfl, cache := h.kCache hc hF rfl, tab := h.kTab hc hF rfl rfl, row := h.kRow hc hF rfl, jobs := h.kJobs hc hF rfl rfl, bas := Nat.le_trans h.bas hc.size, evs := OwnL.nil }
theorem foot_nil {b : KB} {os : List Ow} {ev : Value} {q : Nat} (h : foot b os (.slice none 0 0) q) : foot b os ev q := by
  rcases h with h | h | h | h | h | h | h
  · exact .inl h
  · exact .inr (.inl h)
  · exact .inr (.inr (.inl h))
  · exact .inr (.inr (.inr (.inl h)))
  · exact .inr (.inr (.inr (.inr (.inl h))))
  · cases h
  · exact .inr (.inr (.inr (.inr (.inr (.inr h)))))
/-- the tick is over -/
theorem KAt.fin {b : KB} {B : Nat} {w : World} {s : TSet} {k : KS} {ev : Value} {os : List Ow} (h : KAt b B w s k ev os) (r : Int) : KAt b B ((w.setCell ⟨b.gk, 3, none⟩ (.int .i64 r)).setCell ⟨b.gk, 2, none⟩ (.int .i64 (k.t + 1))) s { k with ran := r, t := k.t + 1 } ev os := by
  have hc := ((Chg.refl (fun q => q = b.gk) w).set (g := b.gk) (i := 3) (.inl rfl) (.int .i64 r)).set (g := b.gk) (i := 2) (.inl rfl) (.int .i64 (k.t + 1))
  have hF := FT.one h.box
  have hb := Blk.set (Blk.set h.box 3 (.int .i64 r)) 2 (.int .i64 (k.t + 1))
  exact { h with
    box := hb, tasks := h.kTasks hc hF rfl rfl, pol := h.kPol hc hF rfl rfl, cache := h.kCache hc hF rfl, tab := h.kTab hc hF rfl rfl, row := h.kRow hc hF rfl, jobs := h.kJobs hc hF rfl rfl, bas := Nat.le_trans h.bas hc.size, evs := h.kEvs hc hF rfl }
theorem turnK_evs (s : TSet) (k : KS) (m : Nat) : (turnK s k m).evs.length ≤ k.evs.length + 2 := by
  have h1 : (preK s k m).evs.length ≤ k.evs.length + 1 := by
    unfold preK
    split
    · simp [KS.tell]
    · omega
  unfold turnK
  dsimp only
  split
  · simp only [KS.tell, List.length_append, List.length_singleton]; omega
  · split
    · simp only [KS.tell, List.length_append, List.length_singleton]; omega
    · omega
theorem turnK_ran (s : TSet) (k : KS) (m : Nat) : (turnK s k m).ran = k.ran := by
  have h1 : (preK s k m).ran = k.ran := by
    unfold preK
    split <;> rfl
  unfold turnK
  dsimp only
  split
  · exact h1
  · split
    · exact h1
    · exact h1
theorem runsC_tr (k : KS) (m : Nat) : (runsC k m).t = k.t ∧ (runsC k m).ran = k.ran := by
  unfold runsC
  dsimp only
  split
  · exact ⟨rfl, rfl⟩
  · split
    · split <;> exact ⟨rfl, rfl⟩
    · split
      · split <;> exact ⟨rfl, rfl⟩
      · split <;> exact ⟨rfl, rfl⟩
theorem runsK_t (s : TSet) (k : KS) (m touch : Nat) : (runsK s k m touch).t = k.t := (runsC_tr _ m).1
theorem runsK_ran (s : TSet) (k : KS) (m touch : Nat) : (runsK s k m touch).ran = k.ran := (runsC_tr _ m).2
theorem step_any (b : KB) (B : Nat) (s : TSet) (k : KS) (ev : Value) (os : List Ow) (P : List Ev) (x : Inp) (vd : Value) (L : Nat → Prop) (w : World) (hs : KH s) (hu : ∀ i, i < s.tasks.length → 0 ≤ (s.tk i).ucb ∧ 0 ≤ (s.tk i).ecb) (h : KAt b B w s k ev os) (hI : KInv s P k) (hHP : HasP s k os) (hlk : Link k)
    (hr : -1 ≤ k.ran) (hr2 : k.ran < s.tasks.length) (hxa : x.arrive < 18446744073709551616) (hxt : x.touch < 18446744073709551616) (hL : ∀ q, L q → q < w.heap.size) (hlow : ∀ q, foot b os ev q → ¬ L q) (hD : ∀ w', Same L w w' → DB w') (hdem : ∀ w', Same L w w' → SlR DemR 1 Any w' vd x.dems)
    (ht : k.t < 1099511627776) (hQ : ∀ i, i < s.tasks.length → 0 ≤ (s.tk i).q ∧ (s.tk i).q ≤ 10000) :
    Calls Tryz.prog 17 #[.pointer (some ⟨b.gk, 0, none⟩), .agg #[.int .u64 x.arrive, vd, .int .u64 x.touch]] w fun e w' => ∃ ev' os', e = .returned ev' ∧ KAt b w.heap.size w' s (stepK s k x) ev' os' ∧ Chg (foot b os ev) w w' ∧ (∀ q, foot b os' ev' q → foot b os ev q ∨ w.heap.size ≤ q) ∧ HasP s (stepK s k x) os' := by
  obtain ⟨A, c, hvt, hcc, hcm, _⟩ := h.tks
  obtain ⟨Ad, cd, hvd, _, _⟩ := (hdem w (fun _ _ => rfl)).form
  subst hvd
  have hn8 := hs.len.2
  unfold maxLen at hcm
  have hX1 := (Ext.refl w).alloc (.cells #[.int .u64 x.arrive, .slice Ad x.dems.length cd, .int .u64 x.touch] 57)
  have hbi1 := Blk.new w #[.int .u64 x.arrive, .slice Ad x.dems.length cd, .int .u64 x.touch] 57
  have hK1 := h.ext hX1
  have hbox1 := hK1.box
  unfold kcs at hbox1
  rw [hvt] at hbox1
  have hc1 := hbox1.cell
  have hf1 := hbox1.free
  have hT0 : 0 ≤ k.t := hI.lb.inv.t
  have hdt : decide (1099511627776 ≤ k.t) = false := decide_eq_false (by omega)
  have HI := Lib.hid hI
  have HK := Lib.hid h
  have HHP := Lib.hid hHP
  have HLK := Lib.hid hlk
  have HK1 := Lib.hid hK1
  clear hI h hHP hlk hK1
  go_enter Tryz.func17, Tryz.ntmps17
  go_wp2_with (fail)
  have hK2 := HK1.out.clear (B' := w.heap.size)
  have hC2 : Chg (foot b os ev) w ((w.alloc (.cells #[.int .u64 x.arrive, .slice Ad x.dems.length cd, .int .u64 x.touch] 57)).setCell ⟨b.gk, 8, none⟩ (.slice none 0 0)) := (Chg.of_ext hX1).set (.inl (.inl rfl)) _
  have hne : w.heap.size ≠ b.gk := fun e => by
    have := HK.out.box.lt
    omega
  have hbi2 := hbi1.far (p := ⟨b.gk, 8, none⟩) hne (.slice none 0 0)
  have HK2 := Lib.hid hK2
  have HC2 := Lib.hid hC2
  clear hc1 hf1 hbox1 hK2 hbi1 hX1 HK1 hne hC2
  generalize World.setCell _ _ _ = W2 at HK2 HC2 hbi2 ⊢
  have hsz2 := HC2.out.size
  refine (late_any b w.heap.size s _ _ os W2 hs HK2.out HI.out.lb.inv.zero (fun i hi hp => ⟨(HI.out.lb.inv.arr i hi hp).1, (HI.out.lb.inv.arr i hi hp).2.1⟩) (by dsimp only; omega) (by simp) hsz2).mono ?_
  rintro e W3 ⟨rfl, ev3, hS3⟩
  have hLB3 := HI.out.lb.late
  have hlk3 := Link.late (s := s) (show Link { k with evs := [] } from HLK.out)
  have hsame3 := lateP_same s { k with evs := [] } s.tasks.length
  have hHP3 : HasP s (lateK s { k with evs := [] }) os := fun i hi hp => by
    have e : (lateK s { k with evs := [] }).tab = k.tab := hsame3.1
    rw [e] at hp ⊢
    exact HHP.out i hi hp
  have ht3 : (lateK s { k with evs := [] }).t = k.t := hsame3.2.1
  have hl3 : (lateK s { k with evs := [] }).evs.length ≤ 8 := by
    have := hsame3.2.2
    simp only [List.length_nil] at this
    exact Nat.le_trans this (by omega)
  have hran3 : (lateK s { k with evs := [] }).ran = k.ran := hlk3.2
  have hbi3 := hbi2.chg hS3.chg (HK2.out.footT.no hbi2 rfl)
  have hlow2 : ∀ q, foot b os (.slice none 0 0) q → ¬ L q := fun q hq => hlow q (foot_nil hq)
  have hL2 : ∀ q, L q → q < W2.heap.size := fun q hq => Nat.lt_of_lt_of_le (hL q hq) hsz2
  have hsm2 : Same L w W2 := fun q hq => HC2.out.block q (hL q hq) (fun f => hlow q f hq)
  have hsm3 := hsm2.trans (hS3.same hL2 hlow2)
  have hlow3 := hS3.low hL2 hlow2
  have hL3 : ∀ q, L q → q < W3.heap.size := fun q hq => Nat.lt_of_lt_of_le (hL2 q hq) hS3.chg.size
  have hArr := arrive_any b w.heap.size s _ ev3 os P x (.slice Ad x.dems.length cd) L W3 hs hS3.at' hLB3 hHP3 hxa hL3 hlow3 (fun w' h => hD w' (hsm3.trans h)) (fun w' h => hdem w' (hsm3.trans h)) (by rw [ht3]; omega) (by omega) (by have := hS3.chg.size; omega)
  have HArr := Lib.hid hArr
  have HS3 := Lib.hid hS3
  have hbic3 := hbi3.cell
  have hLB4 := hLB3.arrive hs x
  have hlk4 := Link.arrive hs hLB3 hlk3.1 (by rw [hran3]; exact hr2) x
  have ht4 : (arriveK s x (lateK s { k with evs := [] })).t = k.t := (arrive_t _ _ _).1.trans ht3
  have hran4 : (arriveK s x (lateK s { k with evs := [] })).ran = k.ran := hlk4.2.trans hran3
  have hstep : stepK s k x = stepE s (arriveK s x (lateK s { k with evs := [] })) x := rfl
  have HSTEP := Lib.hid hstep
  clear hArr hS3 hstep hLB3 hlk3 hsame3 hHP3 ht3 hl3 hran3 hlow2
  go_wp2_with (fail)
  refine HArr.out.mono ?_
  rintro e W4 ⟨rfl, ev4, os4, hS4, hHP4⟩
  have hevl4 : (arriveK s x (lateK s { k with evs := [] })).evs.length ≤ 100 := by
    rw [← arrQ_all s x _ (by omega)]
    have h1 := (arrQ_keep hs x HI.out.lb.late (bitsL x.arrive 64) (fun c hc => by
      obtain ⟨i, hi, rfl⟩ := List.mem_iff_getElem.1 hc
      obtain ⟨d, e, _⟩ := bitsL_at x.arrive 64 hi
      omega)).2.2
    have h2 := bitsL_le x.arrive 64
    have h3 := (lateP_same s { k with evs := [] } s.tasks.length).2.2
    simp only [List.length_nil] at h3
    have h4 : (lateK s { k with evs := [] }).evs.length ≤ 0 + s.tasks.length := h3
    omega
  have hS24 := HS3.out.trans hS4
  have hbi4 := hbi2.chg hS24.chg (HK2.out.footT.no hbi2 rfl)
  have hsm4 := hsm2.trans (hS24.same hL2 (fun q hq => hlow q (foot_nil hq)))
  have hlow4 := hS24.low hL2 (fun q hq => hlow q (foot_nil hq))
  have hL4 : ∀ q, L q → q < W4.heap.size := fun q hq => Nat.lt_of_lt_of_le (hL2 q hq) hS24.chg.size
  have HS24 := Lib.hid hS24
  have hK4 := hS4.at'
  generalize arriveK s x (lateK s { k with evs := [] }) = k4 at *
  have hlk4' := hlk4.1
  have hbox4 := hK4.box
  unfold kcs at hbox4
  rw [hvt, ht4, hran4] at hbox4
  have hc4 : ∀ w', Ext W4 w' → ∀ j, w'.cell? ⟨b.gk, j, none⟩ = #[.int .i64 s.reload, .slice A s.tasks.length c, .int .i64 k.t, .int .i64 k.ran, .pointer (some ⟨b.gp, 0, none⟩), .pointer (some ⟨b.gc, 0, none⟩), .pointer (some ⟨b.gt, 0, none⟩), .slice (some ⟨b.go, 0, none⟩) s.tasks.length s.tasks.length, ev4][j]? := fun w' hx => (hbox4.ext hx).cell
  have htl4 := hLB4.inv.lt
  have hAll := fun w' (hx : Ext W4 w') => all_tab b.gt b.gs k4.tab w' (hK4.ext hx).tab (by rw [htl4]; exact hs.len.1)
  have hArrOk : ArrOk k4.tab := fun i hi => by
    cases hp : (stAt k4.tab i).pend with
    | false => exact .inr rfl
    | true =>
      have := hLB4.inv.arr i (by omega) hp
      rw [ht4] at this
      exact .inl ⟨this.1, by omega⟩
  have hCh := fun w' (hx : Ext W4 w') (vl : Value) (hl : SlR StR 4 Any w' vl k4.tab) => choose_any s (.slice A s.tasks.length c) vl k4.tab k.ran k.t w' (by rw [← hvt]; exact (hK4.ext hx).tks) hl htl4 hArrOk hQ
  have hlkc : chooseS s k4.tab k.ran k.t = chooseS s k4.tab k4.last k4.t := by rw [← hran4, ← ht4]; exact heldS_link hlk4' (by rw [hran4]; exact hr)
  unfold setV at hCh
  rw [hlkc] at hCh
  have HAll := Lib.hid hAll
  have HCh := Lib.hid hCh
  have HK4 := Lib.hid hK4
  have HHP4 := Lib.hid hHP4
  have HLB4 := Lib.hid hLB4
  have HLK4 := Lib.hid hlk4'
  have HT4 := Lib.hid ht4
  have HR4 := Lib.hid hran4
  clear hAll hCh hK4 hHP4 hLB4 hlk4 hlk4' ht4 hran4 hbox4 hS4 hS24 hlkc hArrOk hbi3 hbic3 HArr HS3 hsm3 hlow3 hL3
  generalize hnow : chooseS s k4.tab k4.last k4.t = now at *
  have HNOW := Lib.hid hnow
  clear hnow
  go_upto_region 6 with (fail)
  refine wp_region_mix (T := [8, 17, 18]) (S := Ext W4) (W := W4) (Ext.mono W4) (by kernel_rfl) (by kernel_rfl) (Ext.refl W4).drew (Ext.refl W4) (fun _ _ h => h) (fun K hK => ?_)
  (repeat (first | (refine hX_skip ?_ ?_; (· rfl)) | (apply hX_and; (· rfl); (· rfl); (· rfl); (· rfl); (· rfl); simp only [Act.put, List.setIfInBounds_toArray, List.set_cons_zero, List.set_cons_succ]) | (apply hX_or; (· rfl); (· rfl); (· rfl); (· rfl); (· rfl); simp only [Act.put, List.setIfInBounds_toArray, List.set_cons_zero, List.set_cons_succ]) | (apply hX_off; (· rfl); (· rfl); (· rfl); simp only [Act.put, List.setIfInBounds_toArray, List.set_cons_zero, List.set_cons_succ]) | (apply hX_val; (· rfl); (· intro w hS; go_simp; with_reducible rfl); (· rfl); simp only [Act.put, List.setIfInBounds_toArray, List.set_cons_zero, List.set_cons_succ]) | (apply hX_call; (· rfl); (· rfl); (· intro w hS; go_simp; exact ⟨rfl, rfl⟩); (· intro w hS; fail); simp only [Act.put, List.setIfInBounds_toArray, List.set_cons_zero, List.set_cons_succ]) | (apply hX_if; (· rfl); (· rfl); (· rfl); (· intro hif w hS; go_simp; with_reducible rfl); simp only [Act.put, List.setIfInBounds_toArray, List.set_cons_zero, List.set_cons_succ]) | (apply hX_ifcall; (· rfl); (· rfl); (· rfl); (· intro hif w hS; go_simp; exact ⟨rfl, rfl⟩); (· intro hif w hS; fail); simp only [Act.put, List.setIfInBounds_toArray, List.set_cons_zero, List.set_cons_succ]))); refine hX_nil ?_
  refine hK _ ?_
  clear hK K
  refine wpX_want (i := 8) (by kernel_rfl) rfl (by simp [Region.wanted, yielded]) ?_; intro w' hx K hK; go_simp
  refine (HAll.out w' hx).mono ?_
  rintro e w5 ⟨v5, rfl, hO5, hX5⟩
  refine hK _ _ (hx.trans hX5) ?_
  clear hK K
  have hE5 := hx.trans hX5
  have hSl := OwnL.sts hO5
  clear hx hX5 hO5
  refine wpX_want (i := 17) (by kernel_rfl) rfl (by simp [Region.wanted, yielded]) ?_
  intro w6 hx6 K hK
  go_simp
  refine (HCh.out w6 (hE5.trans hx6) v5 (hSl.extT hx6)).mono ?_
  rintro e w7 ⟨rfl, hb7⟩
  have hE7 := (hE5.trans hx6).call hb7
  refine hK _ _ hE7 ?_
  clear hK K
  refine wpX_want (i := 18) (by kernel_rfl) rfl (by simp [Region.wanted, yielded]) ?_
  intro w8 hx8 K hK
  go_simp
  have hE8 := hE7.trans hx8
  refine hK _ _ hE8 ?_
  clear hK K hx8 hE7 hb7 hx6 hSl hE5
  refine wpX_done (by kernel_rfl) (fun W9 hX9 => ?_) _
  have hE9 := hE8.trans hX9
  clear hE8 hX9
  have hc9 := hc4 W9 hE9
  have hbi9 := hbi4.ext hE9
  have hK9 := HK4.out.ext hE9
  have hS9 := HS24.out.ext hE9
  have HK9 := Lib.hid hK9
  have HS9 := Lib.hid hS9
  have hsm9 := hsm4.trans (.of_ext hL4 hE9)
  have hL9 : ∀ q, L q → q < W9.heap.size := fun q hq => Nat.lt_of_lt_of_le (hL4 q hq) hE9.size
  have hB9 : w.heap.size ≤ W9.heap.size := by have := hS9.chg.size; omega
  clear hc4 hE9 hK9 hS9 hbi4 hL4 hbi2
  by_cases hneg : now = -1
  · have hs2 : stepK s k x = { (k4.tell 10 (-1) 0) with ran := -1, t := (k4.tell 10 (-1) 0).t + 1 } := by
      rw [HSTEP.out]
      unfold stepE
      rw [HNOW.out, hneg]
      rfl
    have HS := Lib.hid hs2
    subst hneg
    clear hs2
    go_wp2_with (fail)
    refine (notes_any b w.heap.size s k4 ev4 os4 10 (-1) 0 W9 HK9.out (by omega) hB9).mono ?_
    rintro e W10 ⟨rfl, ev10, hS10⟩
    have hbox10 := hS10.at'.box
    unfold kcs at hbox10
    simp only [KS.tell] at hbox10
    rw [HT4.out] at hbox10
    have hc10 := hbox10.cell
    have hf10 := hbox10.free
    have hfin : KAt b w.heap.size ((W10.setCell ⟨b.gk, 3, none⟩ (.int .i64 (-1))).setCell ⟨b.gk, 2, none⟩ (.int .i64 (k.t + 1))) s { (k4.tell 10 (-1) 0) with ran := -1, t := (k4.tell 10 (-1) 0).t + 1 } ev10 os4 := by
      have h1 := hS10.at'.fin (-1)
      rw [show (k4.tell 10 (-1) 0).t = k.t from HT4.out] at h1 ⊢
      exact h1
    have hTot := (HS9.out.trans hS10)
    have hw : wrap64 (k.t + 1) = k.t + 1 := by unfold wrap64; omega
    have HFIN := Lib.hid hfin
    have HTOT := Lib.hid hTot
    clear hbox10 hfin hTot hS10
    go_wp2_with (fail)
    go_ret
    refine ⟨ev10, os4, rfl, by rw [HS.out]; exact HFIN.out, ((HC2.out.andThen HTOT.out.chg (fun q _ hq => foot_nil hq)).set (.inl (.inl rfl)) _).set (.inl (.inl rfl)) _, fun q hq => ?_, by rw [HS.out]; exact HHP4.out⟩
    rcases HTOT.out.foot q hq with h | h
    · exact .inl (foot_nil h)
    · exact .inr (by omega)
  · obtain ⟨m, hm0⟩ : ∃ m : Nat, now = m := by
      rcases choose_spec s k4.tab k4.last k4.t with ⟨h1, h2⟩ | ⟨_, h2, _⟩ | ⟨_, m', h2, _⟩
      · rw [HNOW.out] at h2
        unfold heldS at h1
        simp only [Bool.and_eq_true, decide_eq_true_eq] at h1
        exact ⟨k4.last.toNat, by omega⟩
      · rw [HNOW.out] at h2; exact absurd h2 hneg
      · rw [HNOW.out] at h2; exact ⟨m', h2⟩
    subst hm0
    obtain ⟨g1, g2, g3, g4, g5, g6, g7, g8, g9⟩ := HLB4.out.turn hs HNOW.out
    have hs2 : stepK s k x = { (runsK s { turnK s k4 m with last := (m : Int) } m x.touch) with ran := m, t := (runsK s { turnK s k4 m with last := (m : Int) } m x.touch).t + 1 } := by
      rw [HSTEP.out]
      unfold stepE
      dsimp only
      rw [HNOW.out, if_neg hneg, Int.toNat_natCast]
    have HS := Lib.hid hs2
    have hTr := turns_any b w.heap.size s k4 ev4 os4 P m L W9 hs hu HK9.out HLB4.out.inv HHP4.out HLK4.out g5 (by rw [← (g9 m).1]; exact g6) (by rw [HR4.out]; exact hr) (by rw [HR4.out]; exact hr2) hL9 hlow4 (fun w' h => hD w' (hsm9.trans h)) (by rw [HT4.out]; omega) (by omega) hB9
    have hdn : ((m : Int) == -1) = false := by simp
    have HTr := Lib.hid hTr
    have hev := turnK_evs s k4 m
    have hG1 := g1.cong m (turnK s k4 m).ran
    have HG1 := Lib.hid hG1
    have HG4 := Lib.hid g4
    have HG6 := Lib.hid g6
    have HG7 := Lib.hid g7
    clear hs2 hTr hG1 g1 g2 g3 g4 g6 g7 g8 g9
    go_wp2_with (fail)
    refine HTr.out.mono ?_
    rintro e W10 ⟨rfl, ev10, os10, hS10, hHP10⟩
    have hbi10 := hbi9.chg hS10.chg (HK9.out.footT.no hbi9 rfl)
    have hbic10 := hbi10.cell
    have hRu := runs_any b w.heap.size s { turnK s k4 m with last := (m : Int) } ev10 os10 P m x.touch L W10 hs hu hS10.at' HG1.out rfl hHP10 g5 HG6.out HG7.out hxt (fun q hq => Nat.lt_of_lt_of_le (hL9 q hq) hS10.chg.size) (hS10.low hL9 hlow4) (fun w' h => hD w' ((hsm9.trans (hS10.same hL9 hlow4)).trans h)) (by show (turnK s k4 m).t ≤ _; rw [HG4.out, HT4.out]; omega) (by show (turnK s k4 m).evs.length ≤ 300; omega) (by have := hS10.chg.size; omega)
    have HRu := Lib.hid hRu
    have HS10 := Lib.hid hS10
    have hrt : (runsK s { turnK s k4 m with last := (m : Int) } m x.touch).t = k.t := by rw [runsK_t]; show (turnK s k4 m).t = k.t; rw [HG4.out]; exact HT4.out
    have hrr : (runsK s { turnK s k4 m with last := (m : Int) } m x.touch).ran = k.ran := by rw [runsK_ran]; show (turnK s k4 m).ran = k.ran; rw [turnK_ran]; exact HR4.out
    clear hRu hS10 hHP10 hc9
    go_wp2_with (fail)
    refine HRu.out.mono ?_
    rintro e W11 ⟨rfl, ev11, os11, hS11, hHP11⟩
    have hbox11 := hS11.at'.box
    unfold kcs at hbox11
    rw [hrt, hrr] at hbox11
    have hc11 := hbox11.cell
    have hf11 := hbox11.free
    have hfin : KAt b w.heap.size ((W11.setCell ⟨b.gk, 3, none⟩ (.int .i64 (m : Int))).setCell ⟨b.gk, 2, none⟩ (.int .i64 (k.t + 1))) s { (runsK s { turnK s k4 m with last := (m : Int) } m x.touch) with ran := m, t := (runsK s { turnK s k4 m with last := (m : Int) } m x.touch).t + 1 } ev11 os11 := by
      have h1 := hS11.at'.fin m
      rw [hrt] at h1 ⊢
      exact h1
    have hTot := (HS9.out.trans HS10.out).trans hS11
    have hw : wrap64 (k.t + 1) = k.t + 1 := by unfold wrap64; omega
    have HFIN := Lib.hid hfin
    have HTOT := Lib.hid hTot
    have HHP11 := Lib.hid hHP11
    clear hbox11 hfin hTot hS11 hHP11 hrt hrr
    go_wp2_with (fail)
    go_ret
    refine ⟨ev11, os11, rfl, by rw [HS.out]; exact HFIN.out, ((HC2.out.andThen HTOT.out.chg (fun q _ hq => foot_nil hq)).set (.inl (.inl rfl)) _).set (.inl (.inl rfl)) _, fun q hq => ?_, by rw [HS.out]; exact HHP11.out⟩
    rcases HTOT.out.foot q hq with h | h
    · exact .inl (foot_nil h)
    · exact .inr (by omega)
end Go.Proofs.YtniejidekflmiaaGreatDoor
