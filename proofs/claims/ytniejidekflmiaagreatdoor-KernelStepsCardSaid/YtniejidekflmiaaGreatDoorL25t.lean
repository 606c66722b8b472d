/- law 25: steps. -/
import Derived.Test.YtniejidekflmiaaGreatDoorProg
import Derived.Test.YtniejidekflmiaaGreatDoorBase
import Derived.Test.YtniejidekflmiaaGreatDoorHeldX
import Derived.Test.YtniejidekflmiaaGreatDoorHeldN
import Derived.Test.YtniejidekflmiaaGreatDoorApp
import Derived.Test.YtniejidekflmiaaGreatDoorExt0
import Derived.Test.YtniejidekflmiaaGreatDoorChg
import Derived.Test.YtniejidekflmiaaGreatDoorRowB
import Derived.Test.YtniejidekflmiaaGreatDoorKM
import Derived.Test.YtniejidekflmiaaGreatDoorKP1
import Derived.Test.YtniejidekflmiaaGreatDoorKch
import Derived.Test.YtniejidekflmiaaGreatDoorOpenI
import Derived.Test.YtniejidekflmiaaGreatDoorTskP
import Derived.Test.YtniejidekflmiaaGreatDoorTskA
import Derived.Test.YtniejidekflmiaaGreatDoorTskS
import Derived.Test.YtniejidekflmiaaGreatDoorSetO
import Derived.Test.YtniejidekflmiaaGreatDoorKbit
import Derived.Test.YtniejidekflmiaaGreatDoorKcac
import Derived.Test.YtniejidekflmiaaGreatDoorKpol
import Derived.Test.YtniejidekflmiaaGreatDoorKjob
import Derived.Test.YtniejidekflmiaaGreatDoorKn0
import Derived.Test.YtniejidekflmiaaGreatDoorKker
import Derived.Test.YtniejidekflmiaaGreatDoorKtab
import Derived.Test.YtniejidekflmiaaGreatDoorKat
import Derived.Test.YtniejidekflmiaaGreatDoorKlate
import Derived.Test.YtniejidekflmiaaGreatDoorKtur
import Derived.Test.YtniejidekflmiaaGreatDoorKrun
import Derived.Test.YtniejidekflmiaaGreatDoorKrn
import Derived.Test.YtniejidekflmiaaGreatDoorKrd
import Derived.Test.YtniejidekflmiaaGreatDoorEvO
import Derived.Test.YtniejidekflmiaaGreatDoorR18
import Derived.Test.YtniejidekflmiaaGreatDoorR19
import Derived.Test.YtniejidekflmiaaGreatDoorRat
import Derived.Test.YtniejidekflmiaaGreatDoorR25c
import Derived.Test.YtniejidekflmiaaGreatDoorR25n
import Derived.Test.YtniejidekflmiaaGreatDoorR25s
import Derived.Test.YtniejidekflmiaaGreatDoorKnew
import Derived.Deep.Cut
import Derived.Lib.Hide
import Derived.OwnWalk
import Derived.Maps.AppendAt
import Derived.BigQuiet
namespace Go.Proofs.YtniejidekflmiaaGreatDoor
open Go.RowKit
attribute [local go_sem] setCell_twice ByteArray.toList_eq str_list Ext.alloc Ext.drew
set_option linter.unusedSimpArgs false
set_option linter.unusedVariables false
set_option maxRecDepth 100000
set_option maxHeartbeats 1600000
attribute [local irreducible] Calls

theorem SlR.imp {α : Type} {R R' : World → Nat → Nat → α → Prop} {sz : Nat} {w w' : World} {v : Value} {xs : List α} (h : SlR R sz Any w v xs) (hR : ∀ b o x, R w b o x → R' w' b o x) : SlR R' sz Any w' v xs := by
  obtain ⟨A, c, e, h1, h2, h3⟩ := h
  refine ⟨A, c, e, h1, h2, fun hn => ?_⟩
  obtain ⟨b, o, e2, ha, hr⟩ := h3 hn
  exact ⟨b, o, e2, ha, fun i hi => hR _ _ _ (hr i hi)⟩
structure HalfK (s : TSet) (l : List Inp) (W0 wr : World) (b : KB) (b2 : RB) (m : Nat) (k k' : KS) (P : List Ev) (B : Nat) (ev : Value) (os : List Ow) (B2 : Nat) (ev2 : Value) (os2 : List (Option Nat)) : Prop where
  half : Half s l W0 wr b b2 m k k' P B ev os B2 ev2 os2
  st : ∃ hm : m < l.length, k' = stepK s k l[m]
section
variable {s : TSet} {l : List Inp} {W0 wr w5 w6 : World} {b : KB} {b2 : RB} {m : Nat} {k k' : KS} {P : List Ev} {B B2 : Nat} {ev ev' : Value} {os os' : List Ow} {ev2 ev2' : Value} {os2 os2' : List (Option Nat)}
theorem Pair.step1 (hs : KH2 s) (ho : ∀ x ∈ l, x.ok) (hll : l.length ≤ 1000) (hD : DB W0) (hm : m < l.length) (h : Pair s l W0 wr b b2 m k P B ev os B2 ev2 os2) {vd : Value} (hd : SlR DemR 1 Any W0 vd l[m].dems) :
    Calls Tryz.prog 17 #[.pointer (some ⟨b.gk, 0, none⟩), .agg #[.int .u64 l[m].arrive, vd, .int .u64 l[m].touch]] wr fun e w' => ∃ k' ev' os', e = .returned ev' ∧ HalfK s l W0 w' b b2 m k k' P wr.heap.size ev' os' B2 ev2 os2 := by
  have hok := ho _ (List.getElem_mem hm)
  have hsame : ∀ {w' : World}, Same (fun q => q < W0.heap.size) wr w' → ∀ q, q < W0.heap.size → w'.heap[q]? = W0.heap[q]? := fun g q hq => (g q hq).trans (h.ext.below.block q hq)
  refine (step_any b B s k ev os P l[m] vd (fun q => q < W0.heap.size) wr hs.kh hs.u h.at1 h.run.inv h.has1 h.run.ok.link h.run.ok.lo h.run.ok.hi hok.1 hok.2.1 (fun q hq => Nat.lt_of_lt_of_le hq h.ext.size) (fun q hq hl => by have := h.low1 q hq; omega)
        (fun w' g => fun j hj => cells_same (Nat.le_refl _) (hsame g) (hD j hj)) (fun w' g => hd.to fun b' o' x hx => hx.same (Nat.le_refl _) (hsame g)) (by rw [h.run.t]; omega) hs.q).mono ?_
  rintro e w' ⟨ev', os', rfl, hK, hC, hf, hH⟩
  exact ⟨_, ev', os', rfl, h.one hK hC hf hH, hm, rfl⟩
theorem HalfK.step2 (hs : KH2 s) (ho : ∀ x ∈ l, x.ok) (hll : l.length ≤ 1000) (hm : m < l.length) (h : HalfK s l W0 wr b b2 m k k' P B ev os B2 ev2 os2) {vd : Value} (hd : SlR DemR 1 Any W0 vd l[m].dems) :
    Calls Tryz.prog 18 #[.pointer (some ⟨b2.gk, 0, none⟩), .agg #[.int .u64 l[m].arrive, vd, .int .u64 l[m].touch]] wr fun e w' => ∃ ev2' os2', e = .returned ev2' ∧ Pair s l W0 w' b b2 (m + 1) k' (P ++ k'.evs) B ev os wr.heap.size ev2' os2' := by
  obtain ⟨h, _, rfl⟩ := h
  have hok := ho _ (List.getElem_mem hm)
  have hsame : ∀ {w' : World}, Same (fun q => q < W0.heap.size) wr w' → ∀ q, q < W0.heap.size → w'.heap[q]? = W0.heap[q]? := fun g q hq => (g q hq).trans (h.ext.below.block q hq)
  have hla := h.run.inv.last
  refine (step_r25 b2 B2 s k ev2 os2 P l[m] vd (fun q => q < W0.heap.size) wr hs.kh hs.u h.at2 h.run.inv h.has2 hla.1 hla.2 hok.1 hok.2.1 (fun q hq => Nat.lt_of_lt_of_le hq h.ext.size) (fun q hq hl => by have := h.low2 q hq; omega)
        (fun w' g => hd.imp fun b' o' x hx => ?_) (by rw [h.run.t]; omega) hs.q).mono ?_
  · obtain ⟨r, hr, hi⟩ := (hx.same (Nat.le_refl _) (hsame g) : DemR w' b' o' x)
    obtain ⟨r', hr', hi'⟩ := hx
    have e : r = r' := by
      have := cells_same (Nat.le_refl _) (hsame g) hr'
      rw [hr] at this
      exact Option.some.inj this
    subst e
    refine ⟨r, hr, fun w2 g2 => ?_⟩
    obtain ⟨r2, hr2, hi2⟩ := (DemR.same (Nat.le_refl _) (hsame g2) ⟨r, hr', hi'⟩ : DemR w2 b' o' x)
    have e2 : r2 = r := by
      have := cells_same (Nat.le_refl _) (hsame g2) hr'
      rw [hr2] at this
      exact Option.some.inj this
    subst e2
    exact hi2
  · rintro e w' ⟨ev', os', rfl, hK, hC, hf, hH⟩
    exact ⟨ev', os', rfl, h.two hs.kh hm hK hC hf hH⟩
end
theorem kernelSteps_walk (v0 : Value) (s : TSet) (vl : Value) (l : List Inp) (w : World) (hv0 : ∃ u, v0 = setV s u ∧ Tasks w u s.tasks ∧ s.fit) (hl0 : SlR InpR 3 Any w vl l ∧ ∀ x ∈ l, x.ok) (hG : G25 w) :
    Calls Tryz.prog 5 #[v0, vl] w fun e w' => e = .returned (.bool true) ∧ Below w.heap.size w w' := by
  obtain ⟨u, rfl, hv, hf⟩ := hv0
  obtain ⟨hl, ho⟩ := hl0
  obtain ⟨A, c, rfl, hcc, hcm, hxx⟩ := id hv
  obtain ⟨Al, cl, rfl, hcl, hcm2⟩ := SlR.form hl
  clear hxx
  unfold maxLen at hcm hcm2
  have hX1 := (Ext.refl w).alloc (.cells #[.int .i64 s.reload, .slice A s.tasks.length c] 24)
  have hB1 := Blk.new w #[.int .i64 s.reload, .slice A s.tasks.length c] 24
  have hLong := fun w' (hx : Ext w w') => long_any (.slice Al l.length cl) l w' (SlR.ext hl fun _ _ _ h => h.ext hx)
  have hNew := fun w' (hx : Ext w w') (hb : allB s = true) => new_ker s (.slice A s.tasks.length c) w' (hv.ext hx) hf.good (hG.ext hx).gok hb (kh_of hb hf).kh
  have hNew2 := fun w' (hx : Ext w w') (hb : allB s = true) => new_r25 s (.slice A s.tasks.length c) w' (hv.ext hx) hf (fun w2 hx2 => by have := allR_any s (.slice A s.tasks.length c) w2 (hv.ext (hx.trans hx2)) hf.good; rw [hb] at this; exact this) (kh_of hb hf).kh
  have hBad := fun w' (hx : Ext w w') (hb : allB s = false) => new_ker_bad s (.slice A s.tasks.length c) w' (hv.ext hx) hf.good (hG.ext hx).gok hb
  have hBad2 := fun w' (hx : Ext w w') (hb : allB s = false) => new_r25_bad s (.slice A s.tasks.length c) w' (hv.ext hx) hf.good hb
  have hKn := fun w' (hx : Ext w w') => known25_any w' (hG.ext hx)
  unfold setV at hNew hNew2 hBad hBad2 ⊢
  have HLONG := Lib.hid hLong
  have HN1 := Lib.hid hNew
  have HN2 := Lib.hid hNew2
  have HB1 := Lib.hid hBad
  have HB2 := Lib.hid hBad2
  have HKN := Lib.hid hKn
  have HL := Lib.hid hl
  have HG := Lib.hid hG
  clear hLong hNew hNew2 hBad hBad2 hKn hv hl hG
  cases hd : decide (10 < (s.tasks.length : Int)) with
  | true =>
    go_enter Tryz.func5, Tryz.ntmps5
    go_wp2_with (fail)
    go_ret
    exact ⟨rfl, hX1.below⟩
  | false =>
    go_enter Tryz.func5, Tryz.ntmps5
    go_upto_region 1 with (fail)
    generalize hW : w.alloc _ = W1 at hX1 hB1 ⊢
    clear hW
    have hcB := hB1.under
    have hc1 := hB1.cell
    go_wp2_with (fail)
    refine (HLONG.out W1 hX1).mono ?_
    rintro e W2 ⟨rfl, rfl⟩
    cases hlg : longB l with
    | true =>
      go_wp2_with (fail)
      go_ret
      exact ⟨rfl, hX1.below⟩
    | false =>
      have hl250 := longB_no hlg
      clear hlg HLONG
      cases hb : allB s with
      | false =>
        go_wp2_with (fail)
        refine (HB1.out W1 hX1 hb).mono ?_
        rintro e W2 ⟨rfl, hX12⟩
        have hXW2 := hX1.trans hX12
        have hc2 := hcB W2 hX12
        clear hc1
        go_wp2_with (fail)
        refine (HB2.out W2 hXW2 hb).mono ?_
        rintro e W3 ⟨rfl, hX23⟩
        have hXW3 := hXW2.trans hX23
        clear hc2
        go_wp2_with (fail)
        go_loopw [9] (fun i wr => i = .int .i64 0 ∧ Ext w wr) (fun _ _ => 0)
        case atStart => exact ⟨rfl, hXW3⟩
        case round =>
          obtain ⟨rfl, hX⟩ := hrel
          go_wp2_with (fail)
          refine (HKN.out wr hX).mono ?_
          rintro e W5 ⟨rfl, hb5⟩
          go_wp2_with (fail)
          go_ret
          exact ⟨rfl, (hX.call hb5).below⟩
      | true =>
        have hk := kh_of hb hf
        go_wp2_with (fail)
        refine (HN1.out W1 hX1 hb).mono ?_
        rintro e W2 ⟨b0, rfl, ⟨ev0, os0, hK0, ⟨hHP0, hno0⟩, hft0⟩, hX12⟩
        have hXW2 := hX1.trans hX12
        have hc2 := hcB W2 hX12
        clear hc1
        go_wp2_with (fail)
        refine (HN2.out W2 hXW2 hb).mono ?_
        rintro e W3 ⟨b2, rfl, ⟨ev20, os20, hR0, hft20⟩, hX23⟩
        have hXW3 := hXW2.trans hX23
        have hgl := hft20 b2.gl (.inr (.inr (.inr (.inr (.inr (.inl rfl))))))
        have hglt := hR0.lrow.lt
        have hpol := fun q hq => (OwnL.lt hR0.pol.l q hq).2
        have hHR0 : HasR s (initK s) os20 := fun i hi hp => by rw [stAt_init] at hp; cases hp
        have hP0 : Pair s l w W3 { b0 with base := W3.heap.size } b2 0 (initK s) [] _ ev0 os0 _ ev20 os20 :=
          ⟨Nat.zero_le _, RunAt.zero hk.kh l, (hK0.ext hX23).raise hno0 (Nat.le_refl _), hHP0, fun q hq => Nat.le_trans hX1.size (hft0 q hq), hR0, hHR0, fun q hq => Nat.le_trans hXW2.size (hft20 q hq),
            fun q hq hr => by have h1 := foot_lt hK0 hq; have h2 := hft20 q hr; omega, ⟨hglt, hpol⟩, fun p hp q hq => by
              have h1 := (OwnL.lt (hK0.tasks.regs p hp) q hq).2
              refine ⟨by omega, fun q2 hq2 => ?_⟩
              have := hft20 q2 (.inr (.inr (.inr (.inr (.inr (.inr (.inl hq2)))))))
              omega, hXW3⟩
        have HP0 := Lib.hid hP0
        have HK := Lib.hid hk
        have HO := Lib.hid ho
        have hgk : ({ b0 with base := W3.heap.size } : KB).gk = b0.gk := rfl
        clear hc2 hK0 hR0 hP0 hno0 hft0 hft20 hHP0 hHR0 hgl hglt hpol hk ho
        generalize ({ b0 with base := W3.heap.size } : KB) = b at *
        rw [← hgk]
        clear hgk
        go_wp2_with (fail)
        go_loopw [9] (fun i wr => ∃ (m : Nat) (k : KS) (P : List Ev) (B : Nat) (ev : Value) (os : List Ow) (B2 : Nat) (ev2 : Value) (os2 : List (Option Nat)), i = .int .i64 m ∧ Pair s l w wr b b2 m k P B ev os B2 ev2 os2) (fun i _ => l.length - (intOf i).toNat)
        case atStart => exact ⟨0, _, _, _, _, _, _, _, _, rfl, HP0.out⟩
        case round =>
          obtain ⟨m, k, P, B, ev, os, B2, ev2, os2, rfl, hP⟩ := hrel
          have hm := hP.le
          by_cases hlt : m < l.length
          · obtain ⟨bi, oi, rfl, h1, ⟨vd, h2, h3⟩, h4⟩ := SlR.at HL.out hlt
            have hXr := hP.ext
            have hx0 := fun w' (hx : Ext w w') => hx.cell h1
            have hx1 := fun w' (hx : Ext w w') => hx.cell h2
            have hx2 := fun w' (hx : Ext w w') => hx.cell h4
            have hS1 := fun w' (hx : Ext wr w') => (hP.grow hx).step1 HK.out HO.out (by omega) HG.out.db hlt h3
            have hS2 := fun w' k' B ev os (h : HalfK s l w w' b b2 m k k' P B ev os B2 ev2 os2) => h.step2 HK.out HO.out (by omega) hlt h3
            have HS1 := Lib.hid hS1
            have HS2 := Lib.hid hS2
            clear hS1 hS2 h1 h2 h3 h4 hP
            generalize l[m] = x at *
            go_upto_region 10 with (fail)
            refine wp_region_mix (T := [5, 11, 12, 13, 14, 15, 16, 17, 18, 19, 20, 21, 22, 23, 24, 25, 26, 27, 28, 29, 30, 31, 32, 33, 34, 35, 36, 37, 38, 39, 40, 41, 42, 43, 44]) (S := Ext w) (W := wr) (Ext.mono w) (by kernel_rfl) (by kernel_rfl) (Ext.refl wr).drew hXr (fun _ _ h => h) (fun K hK => ?_)
            (repeat (first | (refine hX_skip ?_ ?_; (· rfl)) | (apply hX_and; (· rfl); (· rfl); (· rfl); (· rfl); (· rfl); simp only [Act.put, List.setIfInBounds_toArray, List.set_cons_zero, List.set_cons_succ]) | (apply hX_or; (· rfl); (· rfl); (· rfl); (· rfl); (· rfl); simp only [Act.put, List.setIfInBounds_toArray, List.set_cons_zero, List.set_cons_succ]) | (apply hX_off; (· rfl); (· rfl); (· rfl); simp only [Act.put, List.setIfInBounds_toArray, List.set_cons_zero, List.set_cons_succ]) | (apply hX_val; (· rfl); (· intro w hS; go_simp; with_reducible rfl); (· rfl); simp only [Act.put, List.setIfInBounds_toArray, List.set_cons_zero, List.set_cons_succ]) | (apply hX_call; (· rfl); (· rfl); (· intro w hS; go_simp; exact ⟨rfl, rfl⟩); (· intro w hS; fail); simp only [Act.put, List.setIfInBounds_toArray, List.set_cons_zero, List.set_cons_succ]) | (apply hX_if; (· rfl); (· rfl); (· rfl); (· intro hif w hS; go_simp; with_reducible rfl); simp only [Act.put, List.setIfInBounds_toArray, List.set_cons_zero, List.set_cons_succ]) | (apply hX_ifcall; (· rfl); (· rfl); (· rfl); (· intro hif w hS; go_simp; exact ⟨rfl, rfl⟩); (· intro hif w hS; fail); simp only [Act.put, List.setIfInBounds_toArray, List.set_cons_zero, List.set_cons_succ]))); refine hX_nil ?_
            refine hK _ ?_
            clear hK K
            refine wpX_want (i := 5) (by kernel_rfl) rfl (by simp [Region.wanted, yielded]) ?_
            intro w5 hx5 K hK
            go_simp
            refine (HS1.out w5 hx5).mono ?_
            rintro e w6 ⟨k', ev', os', rfl, hH6⟩
            refine hK _ _ hH6.half.ext ?_
            clear hK K hx5
            have HH6 := Lib.hid hH6
            clear hH6
            refine wpX_want (i := 11) (by kernel_rfl) rfl (by simp [Region.wanted, yielded]) ?_
            intro w7 hx7 K hK
            go_simp
            refine (HS2.out _ _ _ _ _ ⟨HH6.out.half.grow hx7, HH6.out.st⟩).mono ?_
            rintro e w8 ⟨ev2', os2', rfl, hP8⟩
            refine hK _ _ hP8.ext ?_
            clear hK K hx7
            have HP8 := Lib.hid hP8
            clear hP8
            refine wpX_want (i := 12) (by kernel_rfl) rfl (by simp [Region.wanted, yielded]) ?_
            intro w9 hx9 K hK
            go_simp
            refine (sameEv_any _ _ _ _ w9 (HP8.out.at1.evs.evs.ext hx9) (HP8.out.at2.evs.evs.ext hx9)).mono ?_
            rintro e w10 ⟨rfl, hX10⟩
            have hX810 := hx9.trans hX10
            refine hK _ _ (HP8.out.ext.trans hX810) ?_
            clear hK K hx9 hX10
            rw [decide_eq_true (rfl : k'.evs = k'.evs)]
            refine wpX_want (i := 13) (by kernel_rfl) rfl (by simp [Region.wanted, yielded]) ?_
            intro w11 hx11 K hK
            go_simp
            refine hK _ _ (HP8.out.ext.trans (hX810.trans hx11)) ?_
            clear hK K
            refine wpX_want (i := 14) (by kernel_rfl) rfl (by simp [Region.wanted, yielded]) ?_
            intro w12 hx12 K hK
            go_simp
            refine hK _ _ (HP8.out.ext.trans (hX810.trans (hx11.trans hx12))) ?_
            clear hK K
            have hP12 := HP8.out.grow (hX810.trans (hx11.trans hx12))
            clear hx11 hx12 hX810
            have hRan : ∀ w', Ext w12 w' → Calls Tryz.prog 19 #[.pointer (some ⟨b.gk, 0, none⟩)] w' fun e w2 => e = .returned (.int .i64 k'.ran) ∧ Ext w' w2 := fun w' hx => (ran_any _ _ _ _ _ _ w' (hP12.at1.ext hx)).mono (by rintro e w2 ⟨rfl, rfl⟩; exact ⟨rfl, Ext.refl _⟩)
            have hTick : ∀ w', Ext w12 w' → Calls Tryz.prog 20 #[.pointer (some ⟨b.gk, 0, none⟩)] w' fun e w2 => e = .returned (.int .i64 k'.t) ∧ Ext w' w2 := fun w' hx => (tick_any _ _ _ _ _ _ w' (hP12.at1.ext hx)).mono (by rintro e w2 ⟨rfl, rfl⟩; exact ⟨rfl, Ext.refl _⟩)
            have hcR := fun w' (hx : Ext w12 w') => hP12.at2.cells w' hx
            have hcT := fun w' (hx : Ext w12 w') => (hP12.at2.tab.box.ext hx).cell
            unfold rcs at hcR
            have hStates := fun w' (hx : Ext w12 w') => states_any _ _ _ _ _ _ w' (hP12.at1.ext hx) (by have := hP12.run.inv.lb.inv.lt; have := HK.out.kh.len.1; dsimp only at *; omega)
            have HST := Lib.hid hStates
            have HP12 := Lib.hid hP12
            clear hStates hP12 hx0 hx1 hx2
            refine wpX_remix 15 (S' := Ext w12) (T := [34, 42, 43, 44]) (Ext.mono w12) (fun _ h => HP12.out.ext.trans h) (by kernel_rfl) (by kernel_rfl) (Ext.refl w12) (fun K hK => ?_)
            simp only [List.drop_succ_cons, List.drop_zero]
            (repeat (first | (refine hX_skip ?_ ?_; (· rfl)) | (apply hX_and; (· rfl); (· rfl); (· rfl); (· rfl); (· rfl); simp only [Act.put, List.setIfInBounds_toArray, List.set_cons_zero, List.set_cons_succ]) | (apply hX_or; (· rfl); (· rfl); (· rfl); (· rfl); (· rfl); simp only [Act.put, List.setIfInBounds_toArray, List.set_cons_zero, List.set_cons_succ]) | (apply hX_off; (· rfl); (· rfl); (· rfl); simp only [Act.put, List.setIfInBounds_toArray, List.set_cons_zero, List.set_cons_succ]) | (apply hX_val; (· rfl); (· intro w hS; go_simp; with_reducible rfl); (· rfl); simp only [Act.put, List.setIfInBounds_toArray, List.set_cons_zero, List.set_cons_succ]) | (apply hX_call; (· rfl); (· rfl); (· intro w hS; go_simp; exact ⟨rfl, rfl⟩); (· intro w hS; (try exact hRan _ hS); (try exact hTick _ hS)); simp only [Act.put, List.setIfInBounds_toArray, List.set_cons_zero, List.set_cons_succ]) | (apply hX_if; (· rfl); (· rfl); (· rfl); (· intro hif w hS; go_simp; with_reducible rfl); simp only [Act.put, List.setIfInBounds_toArray, List.set_cons_zero, List.set_cons_succ]) | (apply hX_ifcall; (· rfl); (· rfl); (· rfl); (· intro hif w hS; go_simp; exact ⟨rfl, rfl⟩); (· intro hif w hS; (try exact hRan _ hS); (try exact hTick _ hS)); simp only [Act.put, List.setIfInBounds_toArray, List.set_cons_zero, List.set_cons_succ]))); refine hX_nil ?_
            refine hK _ ?_
            clear hK K hRan hTick hcR
            refine wpX_want (i := 34) (by kernel_rfl) rfl (by simp [Region.wanted, yielded]) ?_
            intro w13 hx13 K hK
            go_simp
            refine (HST.out w13 hx13).mono ?_
            rintro e w14 ⟨vs, rfl, hO14, hX14⟩
            refine hK _ _ (hx13.trans hX14) ?_
            clear hK K
            refine wpX_want (i := 42) (by kernel_rfl) rfl (by simp [Region.wanted, yielded]) ?_
            intro w15 hx15 K hK
            go_simp
            refine (same21_eq _ _ k'.tab w15 (OwnL.sts (OwnL.below hO14 hx15.below)) (HP12.out.at2.tab.ext (hx13.trans (hX14.trans hx15))).sts).mono ?_
            rintro e w16 ⟨rfl, hX16⟩
            have hX1216 := hx13.trans (hX14.trans (hx15.trans hX16))
            refine hK _ _ hX1216 ?_
            clear hK K hx13 hX14 hx15 hX16 hO14
            refine wpX_want (i := 43) (by kernel_rfl) rfl (by simp [Region.wanted, yielded]) ?_
            intro w17 hx17 K hK
            go_simp
            refine hK _ _ (hX1216.trans hx17) ?_
            clear hK K
            refine wpX_want (i := 44) (by kernel_rfl) rfl (by simp [Region.wanted, yielded]) ?_
            intro w18 hx18 K hK
            go_simp
            have hXe := hX1216.trans (hx17.trans hx18)
            refine hK _ _ hXe ?_
            clear hK K hX1216 hx17 hx18
            refine wpX_done (by kernel_rfl) (fun w19 hx19 => ?_) _
            have hPe := HP12.out.grow (hXe.trans hx19)
            clear hcT hXe hx19
            have HPE := Lib.hid hPe
            clear hPe
            go_wp2_with (fail)
            exact ⟨⟨m + 1, _, _, _, _, _, _, _, _, rfl, HPE.out⟩, by simp [intOf]; omega⟩
          · have hme : m = l.length := by omega
            subst hme
            have hX := hP.ext
            clear hP
            go_wp2_with (fail)
            refine (HKN.out wr hX).mono ?_
            rintro e W5 ⟨rfl, hb5⟩
            go_wp2_with (fail)
            go_ret
            exact ⟨rfl, (hX.call hb5).below⟩
end Go.Proofs.YtniejidekflmiaaGreatDoor
