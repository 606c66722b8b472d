/- Lemmas: The document's kernel: turns. -/
import Derived.Test.YtlaflbepidkmnaaProg
import Derived.Test.YtlaflbepidkmnaaZd10
import Derived.Deep.Cut
import Derived.Lib.Hide
import Derived.OwnWalk
import Derived.Maps.AppendAt
import Derived.BigQuiet
import Derived.Laws.Bits64b
import Derived.Laws.Bits128
/- R25c -/
namespace Go.Proofs.Ytlaflbepidkmnaa
open Go.RowKit
attribute [local go_sem] setCell_twice Ext.alloc Ext.drew
set_option linter.unusedSimpArgs false
set_option linter.unusedVariables false
set_option maxRecDepth 100000
set_option maxHeartbeats 1600000
attribute [local irreducible] Calls

theorem turn_r25 (b : RB) (B : Nat) (s : TSet) (k : KS) (ev : Value) (os : List (Option Nat)) (m : Nat) (w : World) (hs : KH s) (hu : ∀ i, i < s.tasks.length → 0 ≤ (s.tk i).ucb ∧ 0 ≤ (s.tk i).ecb) (h : RAt b B w s k ev os) (hkl : KLen s k)
    (hm : m < s.tasks.length) (hp : (stAt k.tab m).pend = true) (hr : -1 ≤ k.last) (hr2 : k.last < s.tasks.length) (hhd : ∀ i, i < s.tasks.length → k.had.getD i 0 < 18446744073709551616)
    (ht : k.t ≤ 1099511627776) (hl : k.evs.length ≤ 200) (hB : B ≤ w.heap.size) :
    Calls Try.prog 41 #[.pointer (some ⟨b.gk, 0, none⟩), .int .i64 k.last, .int .i64 m] w fun e w' => e = .returned (.tuple #[]) ∧ ∃ ev', StpR b B s w ev os w' (turnK s k m) ev' os := by
  obtain ⟨A, c, hvt, hcc, hcm, _⟩ := h.tks
  have hn8 := hs.len.2
  unfold maxLen at hcm
  by_cases hpre : 0 ≤ k.last ∧ k.last ≠ m
  · obtain ⟨l, hkL⟩ := Int.eq_ofNat_of_zero_le hpre.1
    have hlm : ¬ l = m := fun e => hpre.2 (by rw [hkL, e])
    have hln : l < s.tasks.length := by omega
    have hq0 : decide (0 ≤ k.last) = true := decide_eq_true hpre.1
    have hq1 : ((l : Int) != (m : Int)) = true := by simp; omega
    have hq00 : decide (0 ≤ (l : Int)) = true := decide_eq_true (by omega)
    have hT := h.tks
    rw [hvt] at hT
    obtain ⟨bt, ot, rr, rfl, hat⟩ := hT.at hln
    have hcu := hat.under.2.2.2.2.2.2.2.2
    have hpreE : preK s k m = { k.tell 5 l 0 with had := k.had.set l (heldO k.own l &&& (s.tk l).ucb.toNat) } := by
      rw [show ((l : Int)) = k.last from hkL.symm]
      unfold preK
      rw [if_pos hpre, show k.last.toNat = l by omega]
      rfl
    have hand := and_ecb (s.tasks[l].ucb) (heldP k.own l 64) (by rw [← tk_at s hln]; exact (hu l hln).1) (by rw [← tk_at s hln]; exact (hs.bits l hln).1) (heldP_lt k.own l 64)
    rw [← tk_at s hln] at hcu hand
    have HTell := Lib.hid (tellR b B s k ev os 5 l 0 w h (by omega) hB)
    have HPE := Lib.hid hpreE
    have HPRE := Lib.hid hpre
    clear hpreE hat hT
    rw [hkL]
    have hkL2 := Lib.hid hkL
    clear hkL hpre
    go_enter Try.func41, Try.ntmps41
    go_wp2_with (fail)
    refine HTell.out.mono ?_
    rintro e W1 ⟨rfl, ev1, hS1⟩
    have hcA := hS1.at'.cells
    unfold rcs at hcA
    rw [hvt] at hcA
    have hcuA := fun w' (hx : Ext W1 w') => cell_chg (hcu w (Ext.refl w)) (hS1.chg.ext hx) (fun hf => by
      obtain ⟨cs, hB⟩ := OwnL.block h.trow (k := bt) (by rw [hvt]; rfl)
      exact h.footT.no hB rfl hf)
    have hHeld := fun w' (hx : Ext W1 w') => (held_r18 b.gc l k.own w' (hS1.at'.ext hx).cache (by omega)).mono (fun e w2 (h : e = .returned (.int .u64 (heldP k.own l 64)) ∧ w' = w2) => (⟨h.1, h.2 ▸ Below.refl _ _⟩ : e = .returned (.int .u64 (heldP k.own l 64)) ∧ Below w'.heap.size w' w2))
    have HHeld := Lib.hid hHeld
    have HSA := Lib.hid hS1
    have hlh : l < k.had.length := by rw [h.hl]; exact hln
    have hll2 : (l : Int) < (s.tasks.length : Int) := by omega
    have HHA := Lib.hid (heldP_all k.own (l : Int))
    clear hHeld hS1 hcu
    generalize heldP k.own l 64 = hv at *
    generalize hgu : (s.tk l).ucb = ub at *
    generalize hhx : hv &&& ub.toNat = hx at *
    have HHX := Lib.hid hhx
    clear hhx hgu
    go_upto_region 2 with (fail)
    refine wp_region_mixZ (T := [22]) (z := 22) (S := Ext W1) (W := W1) (Ext.mono W1) (by kernel_rfl) (by kernel_rfl) (by kernel_rfl) (Ext.refl W1).drew (Ext.refl W1) (fun _ _ h => h) (fun K hK => ?_)
    (repeat (first | (refine hX_skip ?_ ?_; (· rfl)) | (apply hX_and; (· rfl); (· rfl); (· rfl); (· rfl); (· rfl); simp only [Act.put, List.setIfInBounds_toArray, List.set_cons_zero, List.set_cons_succ]) | (apply hX_or; (· rfl); (· rfl); (· rfl); (· rfl); (· rfl); simp only [Act.put, List.setIfInBounds_toArray, List.set_cons_zero, List.set_cons_succ]) | (apply hX_off; (· rfl); (· rfl); (· rfl); simp only [Act.put, List.setIfInBounds_toArray, List.set_cons_zero, List.set_cons_succ]) | (apply hX_val; (· rfl); (· intro w hS; go_simp; with_reducible rfl); (· rfl); simp only [Act.put, List.setIfInBounds_toArray, List.set_cons_zero, List.set_cons_succ]) | (apply hX_call; (· rfl); (· rfl); (· intro w hS; go_simp; exact ⟨rfl, rfl⟩); (· intro w hS; exact callXX (HHeld.out _ hS)); simp only [Act.put, List.setIfInBounds_toArray, List.set_cons_zero, List.set_cons_succ]) | (apply hX_if; (· rfl); (· rfl); (· rfl); (· intro hif w hS; go_simp; with_reducible rfl); simp only [Act.put, List.setIfInBounds_toArray, List.set_cons_zero, List.set_cons_succ]) | (apply hX_ifcall; (· rfl); (· rfl); (· rfl); (· intro hif w hS; go_simp; exact ⟨rfl, rfl⟩); (· intro hif w hS; exact callXX (HHeld.out _ hS)); simp only [Act.put, List.setIfInBounds_toArray, List.set_cons_zero, List.set_cons_succ]))); refine hX_nil ?_
    refine hK _ ?_
    clear hK K
    refine wpZ_last (by kernel_rfl) rfl (by simp [Region.wanted, yielded]) ?_
    intro W2 hX2 K hK
    have hK2 := HSA.out.at'.ext hX2
    have hfr := hK2.hrow.free
    have hr2 := hK2.hrow.at (fun _ => rfl) (i := l) (j := 0) hlh (by decide)
    have hput := hK2.hrow.set (fun _ => rfl) (i := l) (j := 0) (u := .int .u64 hx) (x' := hx) (by decide) (fun _ => rfl)
    rw [Nat.mul_one, Nat.add_zero] at hput hr2
    have hchg := (Chg.refl (fun q => q = b.gh) W2).set (g := b.gh) (i := l) (.inl rfl) (.int .u64 hx)
    have hK3 := hK2.setHad hchg hput (by rw [List.length_set]; exact hK2.hl)
    have hS3 : StpR b B s W2 ev1 os _ _ ev1 os := ⟨hK3, hchg.to (fun q _ hq => .inr (.inr (.inr (.inr (.inl hq))))), fun q hq => .inl hq⟩
    have HS3 := Lib.hid ((HSA.out.ext hX2).trans hS3)
    clear hput hchg hK2 hK3 hS3
    go_simp
    refine hK _ _ ?_
    clear hK K hfr hr2
    generalize W2.setCell _ _ = W3 at HS3 ⊢
    refine wpZ_done (by kernel_rfl) (fun W hX => ?_) _
    have hS1 := (HS3.out.ext hX).state (k2 := preK s k m) (by rw [HPE.out, ← HHA.out, HHX.out]; rfl)
    have hF : (preK s k m).t = k.t ∧ (preK s k m).tab = k.tab ∧ (preK s k m).last = k.last ∧ (preK s k m).evs.length ≤ k.evs.length + 1 ∧ (k.last ≠ m → (preK s k m).had.getD m 0 < 18446744073709551616) := by
      rw [HPE.out]
      refine ⟨rfl, rfl, rfl, by simp [KS.tell], fun _ => ?_⟩
      dsimp only
      rw [getD_set hlh, if_neg hlm]
      exact hhd m hm
    have HS1 := Lib.hid hS1
    have HK1 := Lib.hid (show preK s k m = preK s k m from rfl)
    clear hS1 hX HS3 HPE HHA HHX HTell HSA HHeld hcA hcuA
    generalize hk1 : preK s k m = k1 at *
    have F := Lib.hid hF
    have HK1 := Lib.hid hk1
    clear hF hk1
    have hkl2 := hkL2.out
    have hK1 := HS1.out.at'
    have hc1 := hK1.cells W (Ext.refl W)
    unfold rcs at hc1
    rw [hvt] at hc1
    have htb1 := hK1.tab.box.cell
    have htl1 : k1.tab.length = s.tasks.length := by rw [F.out.2.1]; exact hkl.2.2
    rw [htl1] at htb1
    obtain ⟨-, y1, -, -⟩ := hK1.tab.cells (i := m) (by rw [htl1]; exact hm)
    rw [F.out.2.1] at y1
    have HTB := Lib.hid (show m < k1.tab.length by rw [htl1]; exact hm)
    have HPM := Lib.hid (show (stAt k1.tab m).pend = true by rw [F.out.2.1]; exact hp)
    have hB1 : B ≤ W.heap.size := by have := HS1.out.chg.size; omega
    cases hst : (stAt k.tab m).start with
    | false =>
      have HE := Lib.hid (show turnK s k m = ({ k1 with tab := k1.tab.set m { stAt k1.tab m with start := true }, load := k1.load.set m 0 } : KS).tell 4 m 0 by unfold turnK; rw [if_pos hst, HK1.out])
      rw [hst] at y1
      have HBeg := Lib.hid fun w' (hx : Ext W w') => begin_r21 b.gt b.gs k1.tab m w' (hK1.ext hx).tab HTB.out
      clear hst
      go_upto_region 4 with (fail)
      go_wp2_with (fail)
      refine (HBeg.out W (Ext.refl W)).mono ?_
      rintro e W2 ⟨rfl, hT2, hC2⟩
      rw [modT_on _ HPM.out] at hT2
      have hS2 := hK1.tabS hC2 hT2
      have hK2 := hS2.at'
      have hc2 := hK2.cells W2 (Ext.refl W2)
      unfold rcs at hc2
      have hll : m < k1.load.length := by rw [hK1.ll]; exact hm
      have hr0 := hK2.lrow.at (fun _ => rfl) (i := m) (j := 0) hll (by decide)
      have hfr := hK2.lrow.free
      have hput := hK2.lrow.set (fun _ => rfl) (i := m) (j := 0) (u := .int .i64 0) (x' := 0) (by decide) (fun _ => rfl)
      rw [Nat.mul_one, Nat.add_zero] at hput hr0
      have hchg := (Chg.refl (fun q => q = b.gl) W2).set (g := b.gl) (i := m) (.inl rfl) (.int .i64 0)
      have hK3 := hK2.setLoad hchg hput (by rw [List.length_set]; exact hK2.ll)
      have hS3 : StpR b B s W2 ev1 os _ _ ev1 os := ⟨hK3, hchg.to (fun q _ hq => .inr (.inr (.inr (.inr (.inr (.inl hq)))))), fun q hq => .inl hq⟩
      have HS3 := Lib.hid ((HS1.out.trans hS2).trans hS3)
      have hTell := tellR b B s _ ev1 os 4 m 0 _ hK3 (show k1.evs.length ≤ 1000 by have := F.out.2.2.2.1; omega) (by have := hS3.chg.size; have := hS2.chg.size; omega)
      have HTell := Lib.hid hTell
      clear hTell hS3 hK3 hchg hput hS2 hK2 hT2 hC2 hc1 htb1 y1 hK1
      go_wp2_with (fail)
      refine HTell.out.mono ?_
      rintro e W4 ⟨rfl, ev2, hS4⟩
      have HS4 := Lib.hid ((HS3.out.trans hS4).state HE.out.symm)
      clear hS4
      go_wp2_with (fail)
      exact bodyPost_ret (v := .tuple #[]) (results_none Try.results41 _ _ _) rfl ⟨rfl, ev2, HS4.out⟩
    | true =>
      rw [hst] at y1
      by_cases hlm : k.last = m
      · exact absurd hlm HPRE.out.2
      · obtain ⟨lo, hlo⟩ : ∃ lo, lostO k1.own m (k1.had.getD m 0) = lo := ⟨_, rfl⟩
        have HE := Lib.hid (show turnK s k m = ({ k1 with load := k1.load.set m (s.reload * popK lo), own := touchO k1.own m lo } : KS).tell 6 m (s.reload * popK lo) by unfold turnK; rw [if_neg (by rw [hst]; decide), if_pos hlm, HK1.out]; dsimp only; rw [hlo])
        have hq : ((l : Int) != (m : Int)) = true := by simp; omega
        have hq2 : ((l : Int) == (m : Int)) = false := by simp; omega
        have hmh : m < k1.had.length := by rw [hK1.hl]; exact hm
        have hhm := F.out.2.2.2.2 hlm
        have hlob : lo < 18446744073709551616 := by rw [← hlo]; exact lostO_lt _ _ _ hhm
        have hLost := fun w' (hx : Ext W w') => (lost_r18 b.gc m (k1.had.getD m 0) k1.own w' (hK1.ext hx).cache (by omega) hhm).mono (fun e w2 (h : e = .returned (.int .u64 (lostO k1.own m (k1.had.getD m 0))) ∧ w' = w2) => (⟨h.1, h.2 ▸ Below.refl _ _⟩ : e = .returned (.int .u64 (lostO k1.own m (k1.had.getD m 0))) ∧ Below w'.heap.size w' w2))
        have hh0 : ∀ w', Ext W w' → w'.cell? ⟨b.gh, m, none⟩ = some (.int .u64 (k1.had.getD m 0)) := fun w' hx => by
          have := (hK1.ext hx).hrow.at (fun _ => rfl) (i := m) (j := 0) hmh (by decide)
          rw [Nat.mul_one, Nat.add_zero] at this
          rw [this, getD_at hmh]; rfl
        rw [hlo] at hLost
        generalize k1.had.getD m 0 = hv at *
        have HLost := Lib.hid hLost
        have hcw := hK1.cells
        unfold rcs at hcw
        rw [hvt] at hcw
        have HLO := Lib.hid hlo
        have HKK := Lib.hid hK1
        clear hst hlm hLost hlo hK1 hhm
        go_upto_region 8 with (fail)
        clear y1
        refine wp_region_all (S := Ext W) (by kernel_rfl) (by kernel_rfl) (Ext.refl W).drew (fun K hK => ?_); (repeat (first | (apply hO_and; (· rfl); (· rfl); (· rfl); (· rfl); simp only [Act.put, List.setIfInBounds_toArray, List.set_cons_zero, List.set_cons_succ]) | (apply hO_or; (· rfl); (· rfl); (· rfl); (· rfl); simp only [Act.put, List.setIfInBounds_toArray, List.set_cons_zero, List.set_cons_succ]) | (apply hO_off; (· rfl); (· rfl); simp only [Act.put, List.setIfInBounds_toArray, List.set_cons_zero, List.set_cons_succ]) | (apply hO_val; (· intro w hS; go_simp; with_reducible rfl); (· rfl); simp only [Act.put, List.setIfInBounds_toArray, List.set_cons_zero, List.set_cons_succ]) | (apply hO_call; (· rfl); (· intro w hS; go_simp; exact ⟨rfl, rfl⟩); (· intro w hS; exact callX hS (HLost.out _ hS)); simp only [Act.put, List.setIfInBounds_toArray, List.set_cons_zero, List.set_cons_succ]) | (apply hO_if; (· rfl); (· rfl); (· intro hif w hS; go_simp; with_reducible rfl); simp only [Act.put, List.setIfInBounds_toArray, List.set_cons_zero, List.set_cons_succ]) | (apply hO_ifcall; (· rfl); (· rfl); (· intro hif w hS; go_simp; exact ⟨rfl, rfl⟩); (· intro hif w hS; exact callX hS (HLost.out _ hS)); simp only [Act.put, List.setIfInBounds_toArray, List.set_cons_zero, List.set_cons_succ]))); refine hO_nil ?_; refine hK _ ?_; clear hK K
        intro W4 hX4
        have hc4 := hcw W4 hX4
        have hrel := hs.reload
        have hpop := popN_le 64 lo
        obtain ⟨v, hv2⟩ : ∃ v, s.reload * (popN 64 lo : Int) = v := ⟨_, rfl⟩
        have h1v := mul_small hrel.1 hrel.2 hpop
        rw [hv2] at h1v
        have hwr : wrap64 (s.reload * (popN 64 lo : Int)) = v := by
          rw [hv2]
          unfold wrap64; omega
        have hwr2 : IntKind.i64.wrap (s.reload * (popN 64 lo : Int)) = v := by
          rw [hv2, IntKind.wrap_i64]; omega
        have HCnt := Lib.hid fun w' => count2_any lo hlob w'
        have HV := Lib.hid (show s.reload * popK lo = v from hv2)
        clear hpop hv2
        have hll : m < k1.load.length := by rw [HKK.out.ll]; exact hm
        have hll2 : (m : Int) < (s.tasks.length : Int) := by omega
        go_upto_region 9 with (fail)
        refine wp_region_mixZ (T := [14]) (z := 14) (S := Ext W) (W := W4) (fun _ _ h hx => h.trans hx) (by kernel_rfl) (by kernel_rfl) (by kernel_rfl) (Ext.refl W4).drew hX4 (fun _ _ h => h) (fun K hK => ?_)
        (repeat (first | (refine hX_skip ?_ ?_; (· rfl)) | (apply hX_and; (· rfl); (· rfl); (· rfl); (· rfl); (· rfl); simp only [Act.put, List.setIfInBounds_toArray, List.set_cons_zero, List.set_cons_succ]) | (apply hX_or; (· rfl); (· rfl); (· rfl); (· rfl); (· rfl); simp only [Act.put, List.setIfInBounds_toArray, List.set_cons_zero, List.set_cons_succ]) | (apply hX_off; (· rfl); (· rfl); (· rfl); simp only [Act.put, List.setIfInBounds_toArray, List.set_cons_zero, List.set_cons_succ]) | (apply hX_val; (· rfl); (· intro w hS; go_simp; with_reducible rfl); (· rfl); simp only [Act.put, List.setIfInBounds_toArray, List.set_cons_zero, List.set_cons_succ]) | (apply hX_call; (· rfl); (· rfl); (· intro w hS; go_simp; exact ⟨rfl, rfl⟩); (· intro w hS; exact callXX (HCnt.out _)); simp only [Act.put, List.setIfInBounds_toArray, List.set_cons_zero, List.set_cons_succ]) | (apply hX_if; (· rfl); (· rfl); (· rfl); (· intro hif w hS; go_simp; with_reducible rfl); simp only [Act.put, List.setIfInBounds_toArray, List.set_cons_zero, List.set_cons_succ]) | (apply hX_ifcall; (· rfl); (· rfl); (· rfl); (· intro hif w hS; go_simp; exact ⟨rfl, rfl⟩); (· intro hif w hS; exact callXX (HCnt.out _)); simp only [Act.put, List.setIfInBounds_toArray, List.set_cons_zero, List.set_cons_succ]))); refine hX_nil ?_
        refine hK _ ?_
        clear hK K
        refine wpZ_last (by kernel_rfl) rfl (by simp [Region.wanted, yielded]) ?_
        intro W5 hX5 K hK
        have hE5 := hX4.trans hX5
        have hK5 := HKK.out.ext hE5
        have hfr := hK5.lrow.free
        have hr5 := hK5.lrow.at (fun _ => rfl) (i := m) (j := 0) hll (by decide)
        have hput := hK5.lrow.set (fun _ => rfl) (i := m) (j := 0) (u := .int .i64 v) (x' := v) (by decide) (fun _ => rfl)
        rw [Nat.mul_one, Nat.add_zero] at hput hr5
        have hchg := (Chg.refl (fun q => q = b.gl) W5).set (g := b.gl) (i := m) (.inl rfl) (.int .i64 v)
        have hK6 := hK5.setLoad hchg hput (by rw [List.length_set]; exact hK5.ll)
        have hS6 : StpR b B s W5 ev1 os _ _ ev1 os := ⟨hK6, hchg.to (fun q _ hq => .inr (.inr (.inr (.inr (.inr (.inl hq)))))), fun q hq => .inl hq⟩
        have HS6 := Lib.hid ((HS1.out.ext hE5).trans hS6)
        clear hput hchg hK5 hK6 hS6
        go_simp
        refine hK _ _ ?_
        clear hK K hfr hr5
        generalize W5.setCell _ _ = W6 at HS6 ⊢
        refine wpZ_done (by kernel_rfl) (fun W7 hX7 => ?_) _
        have hS7 := HS6.out.ext hX7
        have hK7 := hS7.at'
        have hTouch := touch_r18 b.gc m lo k1.own W7 hK7.cache (by omega) hlob
        have hc7 := hK7.cells W7 (Ext.refl W7)
        unfold rcs at hc7
        have HTouch := Lib.hid hTouch
        have HS7 := Lib.hid hS7
        clear hTouch hK7 hS7 hX7 hc1 htb1
        go_wp2_with (fail)
        refine HTouch.out.mono ?_
        rintro e W8 ⟨rfl, hT8, hC8⟩
        have hK8 := HS7.out.at'.setCache hC8 hT8
        have hS8 := HS7.out.trans (⟨hK8, hC8.to (fun q _ hq => .inr (.inr (.inl hq))), fun q hq => .inl hq⟩ : StpR b B s W7 ev1 os _ _ ev1 os)
        have hc8 := hK8.cells W8 (Ext.refl W8)
        unfold rcs at hc8
        have hr8 := hK8.lrow.at (fun _ => rfl) (i := m) (j := 0) (by rw [hK8.ll]; exact hm) (by decide)
        rw [Nat.mul_one, Nat.add_zero] at hr8
        have hr9 : W8.cell? ⟨b.gl, m, none⟩ = some (.int .i64 v) := by
          rw [hr8]
          have : (k1.load.set m v)[m]'(by rw [List.length_set]; exact hll) = v := List.getElem_set_self _
          dsimp only
          rw [this]; rfl
        have hTell := tellR b B s _ ev1 os 6 m v W8 hK8 (show k1.evs.length ≤ 1000 by have := F.out.2.2.2.1; omega) (by have := hS8.chg.size; have := HS1.out.chg.size; omega)
        have HTell := Lib.hid hTell
        have HS8 := Lib.hid hS8
        clear hTell hS8 hK8 hT8 hC8 hr8 hc7
        go_wp2_with (fail)
        refine HTell.out.mono ?_
        rintro e W9 ⟨rfl, ev2, hS9⟩
        have HS9 := Lib.hid ((HS8.out.trans hS9).state (k2 := turnK s k m) (by rw [HE.out, HV.out]))
        clear hS9
        go_wp2_with (fail)
        exact bodyPost_end (v := .tuple #[]) (results_none Try.results41 _ _ _) rfl ⟨rfl, ev2, HS9.out⟩
  · have hF : (preK s k m).t = k.t ∧ (preK s k m).tab = k.tab ∧ (preK s k m).last = k.last ∧ (preK s k m).evs.length ≤ k.evs.length + 1 ∧ (k.last ≠ m → (preK s k m).had.getD m 0 < 18446744073709551616) := by
      unfold preK
      rw [if_neg hpre]
      exact ⟨rfl, rfl, rfl, by omega, fun _ => hhd m hm⟩
    have hS1 : StpR b B s w ev os w (preK s k m) ev os := (StpR.refl h).state (by unfold preK; rw [if_neg hpre])
    have HK1 := Lib.hid (show preK s k m = preK s k m from rfl)
    have HS1 := Lib.hid hS1
    have hcond : (decide (0 ≤ k.last) && (k.last != (m : Int))) = false := by
      rw [Bool.eq_false_iff]
      intro hb
      rw [Bool.and_eq_true, decide_eq_true_eq, bne_iff_ne] at hb
      exact hpre hb
    have hor : decide (0 ≤ k.last) = false ∨ (decide (0 ≤ k.last) = true ∧ (k.last != (m : Int)) = false) := by
      cases h1 : decide (0 ≤ k.last) with
      | false => exact .inl rfl
      | true => rw [h1, Bool.true_and] at hcond; exact .inr ⟨rfl, hcond⟩
    clear hS1 hcond
    generalize hk1 : preK s k m = k1 at *
    have F := Lib.hid hF
    have HK1 := Lib.hid hk1
    clear hF hk1
    have HPRE := Lib.hid hpre
    clear hpre
    obtain ⟨W, hW⟩ : ∃ W, W = w := ⟨_, rfl⟩
    obtain ⟨ev1, hev1⟩ : ∃ ev1, ev1 = ev := ⟨_, rfl⟩
    subst hW hev1
    rcases hor with hd0 | ⟨hd0, hd1⟩
    · go_enter Try.func41, Try.ntmps41
      have hK1 := HS1.out.at'
      have hc1 := hK1.cells W (Ext.refl W)
      unfold rcs at hc1
      rw [hvt] at hc1
      have htb1 := hK1.tab.box.cell
      have htl1 : k1.tab.length = s.tasks.length := by rw [F.out.2.1]; exact hkl.2.2
      rw [htl1] at htb1
      obtain ⟨-, y1, -, -⟩ := hK1.tab.cells (i := m) (by rw [htl1]; exact hm)
      rw [F.out.2.1] at y1
      have HTB := Lib.hid (show m < k1.tab.length by rw [htl1]; exact hm)
      have HPM := Lib.hid (show (stAt k1.tab m).pend = true by rw [F.out.2.1]; exact hp)
      have hB1 : B ≤ W.heap.size := by have := HS1.out.chg.size; omega
      cases hst : (stAt k.tab m).start with
      | false =>
        have HE := Lib.hid (show turnK s k m = ({ k1 with tab := k1.tab.set m { stAt k1.tab m with start := true }, load := k1.load.set m 0 } : KS).tell 4 m 0 by unfold turnK; rw [if_pos hst, HK1.out])
        rw [hst] at y1
        have HBeg := Lib.hid fun w' (hx : Ext W w') => begin_r21 b.gt b.gs k1.tab m w' (hK1.ext hx).tab HTB.out
        clear hst
        go_upto_region 4 with (fail)
        go_wp2_with (fail)
        refine (HBeg.out W (Ext.refl W)).mono ?_
        rintro e W2 ⟨rfl, hT2, hC2⟩
        rw [modT_on _ HPM.out] at hT2
        have hS2 := hK1.tabS hC2 hT2
        have hK2 := hS2.at'
        have hc2 := hK2.cells W2 (Ext.refl W2)
        unfold rcs at hc2
        have hll : m < k1.load.length := by rw [hK1.ll]; exact hm
        have hr0 := hK2.lrow.at (fun _ => rfl) (i := m) (j := 0) hll (by decide)
        have hfr := hK2.lrow.free
        have hput := hK2.lrow.set (fun _ => rfl) (i := m) (j := 0) (u := .int .i64 0) (x' := 0) (by decide) (fun _ => rfl)
        rw [Nat.mul_one, Nat.add_zero] at hput hr0
        have hchg := (Chg.refl (fun q => q = b.gl) W2).set (g := b.gl) (i := m) (.inl rfl) (.int .i64 0)
        have hK3 := hK2.setLoad hchg hput (by rw [List.length_set]; exact hK2.ll)
        have hS3 : StpR b B s W2 ev1 os _ _ ev1 os := ⟨hK3, hchg.to (fun q _ hq => .inr (.inr (.inr (.inr (.inr (.inl hq)))))), fun q hq => .inl hq⟩
        have HS3 := Lib.hid ((HS1.out.trans hS2).trans hS3)
        have hTell := tellR b B s _ ev1 os 4 m 0 _ hK3 (show k1.evs.length ≤ 1000 by have := F.out.2.2.2.1; omega) (by have := hS3.chg.size; have := hS2.chg.size; omega)
        have HTell := Lib.hid hTell
        clear hTell hS3 hK3 hchg hput hS2 hK2 hT2 hC2 hc1 htb1 y1 hK1
        go_wp2_with (fail)
        refine HTell.out.mono ?_
        rintro e W4 ⟨rfl, ev2, hS4⟩
        have HS4 := Lib.hid ((HS3.out.trans hS4).state HE.out.symm)
        clear hS4
        go_wp2_with (fail)
        exact bodyPost_ret (v := .tuple #[]) (results_none Try.results41 _ _ _) rfl ⟨rfl, ev2, HS4.out⟩
      | true =>
        rw [hst] at y1
        by_cases hlm : k.last = m
        · have HE := Lib.hid (show turnK s k m = k1 by unfold turnK; rw [if_neg (by rw [hst]; decide), if_neg (by simp [hlm]), HK1.out])
          have hq : (k.last != (m : Int)) = false := by simp [hlm]
          have hq2 : (k.last == (m : Int)) = true := by simp [hlm]
          clear hst
          have HLM := Lib.hid hlm
          clear hlm
          have HS4 := Lib.hid (HS1.out.state HE.out.symm)
          clear hK1
          go_wp2_with (fail)
          exact bodyPost_end (v := .tuple #[]) (results_none Try.results41 _ _ _) rfl ⟨rfl, ev1, HS4.out⟩
        · obtain ⟨lo, hlo⟩ : ∃ lo, lostO k1.own m (k1.had.getD m 0) = lo := ⟨_, rfl⟩
          have HE := Lib.hid (show turnK s k m = ({ k1 with load := k1.load.set m (s.reload * popK lo), own := touchO k1.own m lo } : KS).tell 6 m (s.reload * popK lo) by unfold turnK; rw [if_neg (by rw [hst]; decide), if_pos hlm, HK1.out]; dsimp only; rw [hlo])
          have hq : (k.last != (m : Int)) = true := by simp [hlm]
          have hq2 : (k.last == (m : Int)) = false := by simp [hlm]
          have hmh : m < k1.had.length := by rw [hK1.hl]; exact hm
          have hhm := F.out.2.2.2.2 hlm
          have hlob : lo < 18446744073709551616 := by rw [← hlo]; exact lostO_lt _ _ _ hhm
          have hLost := fun w' (hx : Ext W w') => (lost_r18 b.gc m (k1.had.getD m 0) k1.own w' (hK1.ext hx).cache (by omega) hhm).mono (fun e w2 (h : e = .returned (.int .u64 (lostO k1.own m (k1.had.getD m 0))) ∧ w' = w2) => (⟨h.1, h.2 ▸ Below.refl _ _⟩ : e = .returned (.int .u64 (lostO k1.own m (k1.had.getD m 0))) ∧ Below w'.heap.size w' w2))
          have hh0 : ∀ w', Ext W w' → w'.cell? ⟨b.gh, m, none⟩ = some (.int .u64 (k1.had.getD m 0)) := fun w' hx => by
            have := (hK1.ext hx).hrow.at (fun _ => rfl) (i := m) (j := 0) hmh (by decide)
            rw [Nat.mul_one, Nat.add_zero] at this
            rw [this, getD_at hmh]; rfl
          rw [hlo] at hLost
          generalize k1.had.getD m 0 = hv at *
          have HLost := Lib.hid hLost
          have hcw := hK1.cells
          unfold rcs at hcw
          rw [hvt] at hcw
          have HLO := Lib.hid hlo
          have HKK := Lib.hid hK1
          clear hst hlm hLost hlo hK1 hhm
          go_upto_region 8 with (fail)
          clear y1
          refine wp_region_all (S := Ext W) (by kernel_rfl) (by kernel_rfl) (Ext.refl W).drew (fun K hK => ?_); (repeat (first | (apply hO_and; (· rfl); (· rfl); (· rfl); (· rfl); simp only [Act.put, List.setIfInBounds_toArray, List.set_cons_zero, List.set_cons_succ]) | (apply hO_or; (· rfl); (· rfl); (· rfl); (· rfl); simp only [Act.put, List.setIfInBounds_toArray, List.set_cons_zero, List.set_cons_succ]) | (apply hO_off; (· rfl); (· rfl); simp only [Act.put, List.setIfInBounds_toArray, List.set_cons_zero, List.set_cons_succ]) | (apply hO_val; (· intro w hS; go_simp; with_reducible rfl); (· rfl); simp only [Act.put, List.setIfInBounds_toArray, List.set_cons_zero, List.set_cons_succ]) | (apply hO_call; (· rfl); (· intro w hS; go_simp; exact ⟨rfl, rfl⟩); (· intro w hS; exact callX hS (HLost.out _ hS)); simp only [Act.put, List.setIfInBounds_toArray, List.set_cons_zero, List.set_cons_succ]) | (apply hO_if; (· rfl); (· rfl); (· intro hif w hS; go_simp; with_reducible rfl); simp only [Act.put, List.setIfInBounds_toArray, List.set_cons_zero, List.set_cons_succ]) | (apply hO_ifcall; (· rfl); (· rfl); (· intro hif w hS; go_simp; exact ⟨rfl, rfl⟩); (· intro hif w hS; exact callX hS (HLost.out _ hS)); simp only [Act.put, List.setIfInBounds_toArray, List.set_cons_zero, List.set_cons_succ]))); refine hO_nil ?_; refine hK _ ?_; clear hK K
          intro W4 hX4
          have hc4 := hcw W4 hX4
          have hrel := hs.reload
          have hpop := popN_le 64 lo
          obtain ⟨v, hv2⟩ : ∃ v, s.reload * (popN 64 lo : Int) = v := ⟨_, rfl⟩
          have h1v := mul_small hrel.1 hrel.2 hpop
          rw [hv2] at h1v
          have hwr : wrap64 (s.reload * (popN 64 lo : Int)) = v := by
            rw [hv2]
            unfold wrap64; omega
          have hwr2 : IntKind.i64.wrap (s.reload * (popN 64 lo : Int)) = v := by
            rw [hv2, IntKind.wrap_i64]; omega
          have HCnt := Lib.hid fun w' => count2_any lo hlob w'
          have HV := Lib.hid (show s.reload * popK lo = v from hv2)
          clear hpop hv2
          have hll : m < k1.load.length := by rw [HKK.out.ll]; exact hm
          have hll2 : (m : Int) < (s.tasks.length : Int) := by omega
          go_upto_region 9 with (fail)
          refine wp_region_mixZ (T := [14]) (z := 14) (S := Ext W) (W := W4) (fun _ _ h hx => h.trans hx) (by kernel_rfl) (by kernel_rfl) (by kernel_rfl) (Ext.refl W4).drew hX4 (fun _ _ h => h) (fun K hK => ?_)
          (repeat (first | (refine hX_skip ?_ ?_; (· rfl)) | (apply hX_and; (· rfl); (· rfl); (· rfl); (· rfl); (· rfl); simp only [Act.put, List.setIfInBounds_toArray, List.set_cons_zero, List.set_cons_succ]) | (apply hX_or; (· rfl); (· rfl); (· rfl); (· rfl); (· rfl); simp only [Act.put, List.setIfInBounds_toArray, List.set_cons_zero, List.set_cons_succ]) | (apply hX_off; (· rfl); (· rfl); (· rfl); simp only [Act.put, List.setIfInBounds_toArray, List.set_cons_zero, List.set_cons_succ]) | (apply hX_val; (· rfl); (· intro w hS; go_simp; with_reducible rfl); (· rfl); simp only [Act.put, List.setIfInBounds_toArray, List.set_cons_zero, List.set_cons_succ]) | (apply hX_call; (· rfl); (· rfl); (· intro w hS; go_simp; exact ⟨rfl, rfl⟩); (· intro w hS; exact callXX (HCnt.out _)); simp only [Act.put, List.setIfInBounds_toArray, List.set_cons_zero, List.set_cons_succ]) | (apply hX_if; (· rfl); (· rfl); (· rfl); (· intro hif w hS; go_simp; with_reducible rfl); simp only [Act.put, List.setIfInBounds_toArray, List.set_cons_zero, List.set_cons_succ]) | (apply hX_ifcall; (· rfl); (· rfl); (· rfl); (· intro hif w hS; go_simp; exact ⟨rfl, rfl⟩); (· intro hif w hS; exact callXX (HCnt.out _)); simp only [Act.put, List.setIfInBounds_toArray, List.set_cons_zero, List.set_cons_succ]))); refine hX_nil ?_
          refine hK _ ?_
          clear hK K
          refine wpZ_last (by kernel_rfl) rfl (by simp [Region.wanted, yielded]) ?_
          intro W5 hX5 K hK
          have hE5 := hX4.trans hX5
          have hK5 := HKK.out.ext hE5
          have hfr := hK5.lrow.free
          have hr5 := hK5.lrow.at (fun _ => rfl) (i := m) (j := 0) hll (by decide)
          have hput := hK5.lrow.set (fun _ => rfl) (i := m) (j := 0) (u := .int .i64 v) (x' := v) (by decide) (fun _ => rfl)
          rw [Nat.mul_one, Nat.add_zero] at hput hr5
          have hchg := (Chg.refl (fun q => q = b.gl) W5).set (g := b.gl) (i := m) (.inl rfl) (.int .i64 v)
          have hK6 := hK5.setLoad hchg hput (by rw [List.length_set]; exact hK5.ll)
          have hS6 : StpR b B s W5 ev1 os _ _ ev1 os := ⟨hK6, hchg.to (fun q _ hq => .inr (.inr (.inr (.inr (.inr (.inl hq)))))), fun q hq => .inl hq⟩
          have HS6 := Lib.hid ((HS1.out.ext hE5).trans hS6)
          clear hput hchg hK5 hK6 hS6
          go_simp
          refine hK _ _ ?_
          clear hK K hfr hr5
          generalize W5.setCell _ _ = W6 at HS6 ⊢
          refine wpZ_done (by kernel_rfl) (fun W7 hX7 => ?_) _
          have hS7 := HS6.out.ext hX7
          have hK7 := hS7.at'
          have hTouch := touch_r18 b.gc m lo k1.own W7 hK7.cache (by omega) hlob
          have hc7 := hK7.cells W7 (Ext.refl W7)
          unfold rcs at hc7
          have HTouch := Lib.hid hTouch
          have HS7 := Lib.hid hS7
          clear hTouch hK7 hS7 hX7 hc1 htb1
          go_wp2_with (fail)
          refine HTouch.out.mono ?_
          rintro e W8 ⟨rfl, hT8, hC8⟩
          have hK8 := HS7.out.at'.setCache hC8 hT8
          have hS8 := HS7.out.trans (⟨hK8, hC8.to (fun q _ hq => .inr (.inr (.inl hq))), fun q hq => .inl hq⟩ : StpR b B s W7 ev1 os _ _ ev1 os)
          have hc8 := hK8.cells W8 (Ext.refl W8)
          unfold rcs at hc8
          have hr8 := hK8.lrow.at (fun _ => rfl) (i := m) (j := 0) (by rw [hK8.ll]; exact hm) (by decide)
          rw [Nat.mul_one, Nat.add_zero] at hr8
          have hr9 : W8.cell? ⟨b.gl, m, none⟩ = some (.int .i64 v) := by
            rw [hr8]
            have : (k1.load.set m v)[m]'(by rw [List.length_set]; exact hll) = v := List.getElem_set_self _
            dsimp only
            rw [this]; rfl
          have hTell := tellR b B s _ ev1 os 6 m v W8 hK8 (show k1.evs.length ≤ 1000 by have := F.out.2.2.2.1; omega) (by have := hS8.chg.size; have := HS1.out.chg.size; omega)
          have HTell := Lib.hid hTell
          have HS8 := Lib.hid hS8
          clear hTell hS8 hK8 hT8 hC8 hr8 hc7
          go_wp2_with (fail)
          refine HTell.out.mono ?_
          rintro e W9 ⟨rfl, ev2, hS9⟩
          have HS9 := Lib.hid ((HS8.out.trans hS9).state (k2 := turnK s k m) (by rw [HE.out, HV.out]))
          clear hS9
          go_wp2_with (fail)
          exact bodyPost_end (v := .tuple #[]) (results_none Try.results41 _ _ _) rfl ⟨rfl, ev2, HS9.out⟩
    · go_enter Try.func41, Try.ntmps41
      have hK1 := HS1.out.at'
      have hc1 := hK1.cells W (Ext.refl W)
      unfold rcs at hc1
      rw [hvt] at hc1
      have htb1 := hK1.tab.box.cell
      have htl1 : k1.tab.length = s.tasks.length := by rw [F.out.2.1]; exact hkl.2.2
      rw [htl1] at htb1
      obtain ⟨-, y1, -, -⟩ := hK1.tab.cells (i := m) (by rw [htl1]; exact hm)
      rw [F.out.2.1] at y1
      have HTB := Lib.hid (show m < k1.tab.length by rw [htl1]; exact hm)
      have HPM := Lib.hid (show (stAt k1.tab m).pend = true by rw [F.out.2.1]; exact hp)
      have hB1 : B ≤ W.heap.size := by have := HS1.out.chg.size; omega
      cases hst : (stAt k.tab m).start with
      | false =>
        have HE := Lib.hid (show turnK s k m = ({ k1 with tab := k1.tab.set m { stAt k1.tab m with start := true }, load := k1.load.set m 0 } : KS).tell 4 m 0 by unfold turnK; rw [if_pos hst, HK1.out])
        rw [hst] at y1
        have HBeg := Lib.hid fun w' (hx : Ext W w') => begin_r21 b.gt b.gs k1.tab m w' (hK1.ext hx).tab HTB.out
        clear hst
        go_upto_region 4 with (fail)
        go_wp2_with (fail)
        refine (HBeg.out W (Ext.refl W)).mono ?_
        rintro e W2 ⟨rfl, hT2, hC2⟩
        rw [modT_on _ HPM.out] at hT2
        have hS2 := hK1.tabS hC2 hT2
        have hK2 := hS2.at'
        have hc2 := hK2.cells W2 (Ext.refl W2)
        unfold rcs at hc2
        have hll : m < k1.load.length := by rw [hK1.ll]; exact hm
        have hr0 := hK2.lrow.at (fun _ => rfl) (i := m) (j := 0) hll (by decide)
        have hfr := hK2.lrow.free
        have hput := hK2.lrow.set (fun _ => rfl) (i := m) (j := 0) (u := .int .i64 0) (x' := 0) (by decide) (fun _ => rfl)
        rw [Nat.mul_one, Nat.add_zero] at hput hr0
        have hchg := (Chg.refl (fun q => q = b.gl) W2).set (g := b.gl) (i := m) (.inl rfl) (.int .i64 0)
        have hK3 := hK2.setLoad hchg hput (by rw [List.length_set]; exact hK2.ll)
        have hS3 : StpR b B s W2 ev1 os _ _ ev1 os := ⟨hK3, hchg.to (fun q _ hq => .inr (.inr (.inr (.inr (.inr (.inl hq)))))), fun q hq => .inl hq⟩
        have HS3 := Lib.hid ((HS1.out.trans hS2).trans hS3)
        have hTell := tellR b B s _ ev1 os 4 m 0 _ hK3 (show k1.evs.length ≤ 1000 by have := F.out.2.2.2.1; omega) (by have := hS3.chg.size; have := hS2.chg.size; omega)
        have HTell := Lib.hid hTell
        clear hTell hS3 hK3 hchg hput hS2 hK2 hT2 hC2 hc1 htb1 y1 hK1
        go_wp2_with (fail)
        refine HTell.out.mono ?_
        rintro e W4 ⟨rfl, ev2, hS4⟩
        have HS4 := Lib.hid ((HS3.out.trans hS4).state HE.out.symm)
        clear hS4
        go_wp2_with (fail)
        exact bodyPost_ret (v := .tuple #[]) (results_none Try.results41 _ _ _) rfl ⟨rfl, ev2, HS4.out⟩
      | true =>
        rw [hst] at y1
        by_cases hlm : k.last = m
        · have HE := Lib.hid (show turnK s k m = k1 by unfold turnK; rw [if_neg (by rw [hst]; decide), if_neg (by simp [hlm]), HK1.out])
          have hq : (k.last != (m : Int)) = false := by simp [hlm]
          have hq2 : (k.last == (m : Int)) = true := by simp [hlm]
          clear hst
          have HLM := Lib.hid hlm
          clear hlm
          have HS4 := Lib.hid (HS1.out.state HE.out.symm)
          clear hK1
          go_wp2_with (fail)
          exact bodyPost_end (v := .tuple #[]) (results_none Try.results41 _ _ _) rfl ⟨rfl, ev1, HS4.out⟩
        · exact absurd (by simpa using hd1) hlm
end Go.Proofs.Ytlaflbepidkmnaa
/- The document's kernel: a tick of a job. -/
namespace Go.Proofs.Ytlaflbepidkmnaa
open Go.RowKit
attribute [local go_sem] setCell_twice Ext.alloc Ext.drew
set_option linter.unusedSimpArgs false
set_option linter.unusedVariables false
set_option maxRecDepth 100000
set_option maxHeartbeats 1600000
attribute [local irreducible] Calls

theorem run_r25 (b : RB) (B : Nat) (s : TSet) (k : KS) (ev : Value) (os : List (Option Nat)) (m gj touch : Nat) (w : World) (hs : KH s) (hu : ∀ i, i < s.tasks.length → 0 ≤ (s.tk i).ucb ∧ 0 ≤ (s.tk i).ecb) (h : RAt b B w s k ev os) (hkl : KLen s k)
    (hm : m < s.tasks.length) (hp : (stAt k.tab m).pend = true) (hg : opAt os m = some gj) (htc : touch < 18446744073709551616) (hjok : JOk (s.tk m).regs (k.jobs.getD m Jb.zero)) (hlo : 0 ≤ k.load.getD m 0 ∧ k.load.getD m 0 ≤ 640000)
    (harr : 0 ≤ (stAt k.tab m).arr ∧ (stAt k.tab m).arr ≤ k.t) (ht : k.t ≤ 1099511627776) (hl : k.evs.length ≤ 300) (hB : B ≤ w.heap.size) :
    Calls Try.prog 42 #[.pointer (some ⟨b.gk, 0, none⟩), .int .i64 m, .int .u64 touch] w fun e w' => e = .returned (.tuple #[]) ∧ ∃ ev', StpR b B s w ev os w' (runsK s k m touch) ev' os := by
  obtain ⟨A, c, hvt, hcc, hcm, _⟩ := h.tks
  have hT := h.tks
  rw [hvt] at hT
  obtain ⟨bt, ot, rr, rfl, hat⟩ := hT.at hm
  have hce := hat.under.2.2.2.2.2.2.2.1
  have hn8 := hs.len.2
  unfold maxLen at hcm
  have hc := h.cells
  unfold rcs at hc
  rw [hvt] at hc
  have hand := and_ecb (s.tasks[m].ecb) touch (by rw [← tk_at s hm]; exact (hu m hm).2) (by rw [← tk_at s hm]; exact (hs.bits m hm).2) htc
  obtain ⟨tt, htt⟩ : ∃ tt, touch &&& (s.tasks[m].ecb).toNat = tt := ⟨_, rfl⟩
  rw [htt] at hand
  have httb : tt < 18446744073709551616 := by rw [← htt]; exact Nat.lt_of_le_of_lt Nat.and_le_left htc
  have HTch := Lib.hid fun w' (hx : Ext w w') => touch_r18 b.gc m tt k.own w' (h.ext hx).cache (by omega) httb
  have hRC : runsK s k m touch = runsC { k with own := touchO k.own m tt } m := by rw [runsK_C, tk_at s hm, htt]
  have HRC := Lib.hid hRC
  have HK := Lib.hid h
  have hm2 : (m : Int) < (s.tasks.length : Int) := by omega
  clear hRC hat hT htt
  go_enter Try.func42, Try.ntmps42
  go_upto_region 0 with (fail)
  refine wp_region_text (n := 16) (S := Ext w) (by kernel_rfl) (by kernel_rfl) (Ext.refl w).drew (fun K hK => ?_)
  (repeat (first | (apply hO_and; (· rfl); (· rfl); (· rfl); (· rfl); simp only [Act.put, List.setIfInBounds_toArray, List.set_cons_zero, List.set_cons_succ]) | (apply hO_or; (· rfl); (· rfl); (· rfl); (· rfl); simp only [Act.put, List.setIfInBounds_toArray, List.set_cons_zero, List.set_cons_succ]) | (apply hO_off; (· rfl); (· rfl); simp only [Act.put, List.setIfInBounds_toArray, List.set_cons_zero, List.set_cons_succ]) | (apply hO_val; (· intro w hS; go_simp; with_reducible rfl); (· rfl); simp only [Act.put, List.setIfInBounds_toArray, List.set_cons_zero, List.set_cons_succ]) | (apply hO_call; (· rfl); (· intro w hS; go_simp; exact ⟨rfl, rfl⟩); (· intro w hS; fail); simp only [Act.put, List.setIfInBounds_toArray, List.set_cons_zero, List.set_cons_succ]) | (apply hO_if; (· rfl); (· rfl); (· intro hif w hS; go_simp; with_reducible rfl); simp only [Act.put, List.setIfInBounds_toArray, List.set_cons_zero, List.set_cons_succ]) | (apply hO_ifcall; (· rfl); (· rfl); (· intro hif w hS; go_simp; exact ⟨rfl, rfl⟩); (· intro hif w hS; fail); simp only [Act.put, List.setIfInBounds_toArray, List.set_cons_zero, List.set_cons_succ]))); refine hO_nil ?_
  refine hK _ ?_
  clear hK K
  intro W1 hX1
  simp only [List.drop_succ_cons, List.drop_zero]
  go_wp2_with (fail)
  refine (HTch.out W1 hX1).mono ?_
  rintro e W2 ⟨rfl, hT2, hC2⟩
  have hK2 := (HK.out.ext hX1).setCache hC2 hT2
  have hS2 : StpR b B s w ev os W2 { k with own := touchO k.own m tt } ev os := ⟨hK2, ((Chg.of_ext hX1).trans hC2).to (fun q _ hq => .inr (.inr (.inl hq))), fun q hq => .inl hq⟩
  generalize hk1 : ({ k with own := touchO k.own m tt } : KS) = k1 at *
  obtain ⟨f1, f2, f3, f4, f5⟩ : k1.t = k.t ∧ k1.tab = k.tab ∧ k1.jobs = k.jobs ∧ k1.load = k.load ∧ k1.evs = k.evs := by rw [← hk1]; exact ⟨rfl, rfl, rfl, rfl, rfl⟩
  have hld : k1.load.getD m 0 = k.load.getD m 0 := by rw [f4]
  have hlm : m < k1.load.length := by rw [hK2.ll]; exact hm
  have hr2 : ∀ w', Ext W2 w' → w'.cell? ⟨b.gl, m, none⟩ = some (.int .i64 (k1.load.getD m 0)) := fun w' hx => by
    have := (hK2.ext hx).lrow.at (fun _ => rfl) (i := m) (j := 0) hlm (by decide)
    rw [Nat.mul_one, Nat.add_zero] at this
    rw [this, getD_at hlm]; rfl
  have hr20 := hr2 W2 (Ext.refl W2)
  have hfl := hK2.lrow.free
  have hc2 := hK2.cells
  unfold rcs at hc2
  rw [hvt] at hc2
  have hc20 := hc2 W2 (Ext.refl W2)
  have htl : m < k1.tab.length := by rw [f2, hkl.2.2]; exact hm
  have hjl : k1.jobs.length = s.tasks.length := by rw [f3]; exact hkl.1
  have hpm : (stAt k1.tab m).pend = true := by rw [f2]; exact hp
  have har : 0 ≤ (stAt k1.tab m).arr ∧ (stAt k1.tab m).arr ≤ k1.t := by rw [f1, f2]; exact harr
  have hj1 : JOk (s.tk m).regs (k1.jobs.getD m Jb.zero) := by rw [f3]; exact hjok
  have ht1 : k1.t ≤ 1099511627776 := by rw [f1]; exact ht
  have hl1 : k1.evs.length ≤ 300 := by rw [f5]; exact hl
  have htn : k1.tab.length = s.tasks.length := by rw [f2]; exact hkl.2.2
  rw [← hld] at hlo
  have HK2 := Lib.hid hK2
  have HS2 := Lib.hid hS2
  have HPM := Lib.hid hpm
  have HJL := Lib.hid hjl
  have HTN := Lib.hid htn
  have HJ1 := Lib.hid hj1
  clear hK2 hS2 hT2 hC2 hX1 hk1 f1 f2 f3 f4 f5 hld hpm hc hce hand hkl harr hjok ht hl hp hjl htn hj1 HK HTch
  by_cases hz : 0 < k1.load.getD m 0
  · have hE := HRC.out
    unfold runsC at hE
    rw [if_pos hz] at hE
    have HE := Lib.hid hE
    clear hE
    generalize k1.load.getD m 0 = lv at *
    have hzd : decide (0 < lv) = true := decide_eq_true hz
    have hwr : wrap64 (lv - 1) = lv - 1 := by unfold wrap64; omega
    have hwr2 : IntKind.i64.wrap (lv - 1) = lv - 1 := by rw [IntKind.wrap_i64]; omega
    have hput := HK2.out.lrow.set (fun _ => rfl) (i := m) (j := 0) (u := .int .i64 (lv - 1)) (x' := lv - 1) (by decide) (fun _ => rfl)
    rw [Nat.mul_one, Nat.add_zero] at hput
    have hchg := (Chg.refl (fun q => q = b.gl) W2).set (g := b.gl) (i := m) (.inl rfl) (.int .i64 (lv - 1))
    have hK3 := HK2.out.setLoad hchg hput (by rw [List.length_set]; exact HK2.out.ll)
    have hS3 := HS2.out.trans (⟨hK3, hchg.to (fun q _ hq => .inr (.inr (.inr (.inr (.inr (.inl hq)))))), fun q hq => .inl hq⟩ : StpR b B s W2 ev os _ _ ev os)
    have HS3 := Lib.hid hS3
    clear hput hchg hK3 hS3
    go_upto_region 9 with (fail)
    generalize W2.setCell _ _ = W3 at HS3 ⊢
    have hK3 := HS3.out.at'
    have hc3 := hK3.cells
    unfold rcs at hc3
    rw [hvt] at hc3
    have HMid := Lib.hid fun w' (hx : Ext W3 w') => mid_r21 b.gt b.gs k1.tab m true w' (hK3.ext hx).tab htl
    clear hK3 hc2 hc20 hr2 hr20 hfl
    refine wp_region_text (n := 16) (S := Ext W3) (by kernel_rfl) (by kernel_rfl) (Ext.refl W3).drew (fun K hK => ?_)
    (repeat (first | (apply hO_and (p := false) (q := true); (· rfl); (· rfl); (· rfl); (· rfl); simp only [Act.put, List.setIfInBounds_toArray, List.set_cons_zero, List.set_cons_succ]) | (apply hO_or (p := true) (q := true); (· rfl); (· rfl); (· rfl); (· rfl); simp only [Act.put, List.setIfInBounds_toArray, List.set_cons_zero, List.set_cons_succ]) | (apply hO_and; (· rfl); (· rfl); (· rfl); (· rfl); simp only [Act.put, List.setIfInBounds_toArray, List.set_cons_zero, List.set_cons_succ]) | (apply hO_or; (· rfl); (· rfl); (· rfl); (· rfl); simp only [Act.put, List.setIfInBounds_toArray, List.set_cons_zero, List.set_cons_succ]) | (apply hO_off; (· rfl); (· rfl); simp only [Act.put, List.setIfInBounds_toArray, List.set_cons_zero, List.set_cons_succ]) | (apply hO_un; (· rfl); (· rfl); simp only [Act.put, List.setIfInBounds_toArray, List.set_cons_zero, List.set_cons_succ]) | (apply hO_val; (· intro w hS; go_simp; with_reducible rfl); (· rfl); simp only [Act.put, List.setIfInBounds_toArray, List.set_cons_zero, List.set_cons_succ]) | (apply hO_call; (· rfl); (· intro w hS; go_simp; exact ⟨rfl, rfl⟩); (· intro w hS; fail); simp only [Act.put, List.setIfInBounds_toArray, List.set_cons_zero, List.set_cons_succ]) | (apply hO_if; (· rfl); (· rfl); (· intro hif w hS; go_simp; with_reducible rfl); simp only [Act.put, List.setIfInBounds_toArray, List.set_cons_zero, List.set_cons_succ]) | (apply hO_ifcall; (· rfl); (· rfl); (· intro hif w hS; go_simp; exact ⟨rfl, rfl⟩); (· intro hif w hS; fail); simp only [Act.put, List.setIfInBounds_toArray, List.set_cons_zero, List.set_cons_succ]))); refine hO_nil ?_
    refine hK _ ?_
    clear hK K
    intro W4 hX4
    simp only [List.drop_succ_cons, List.drop_zero]
    go_wp2_with (fail)
    refine (HMid.out W4 hX4).mono ?_
    rintro e W5 ⟨rfl, hT5, hC5⟩
    rw [modT_on _ HPM.out] at hT5
    have hS5 := (HS3.out.ext hX4).trans ((HS3.out.at'.ext hX4).tabS hC5 hT5)
    have HS5 := Lib.hid (hS5.state (k2 := runsK s k m touch) HE.out.symm)
    clear hS5 hT5 hC5
    go_wp2_with (fail)
    exact bodyPost_end (v := .tuple #[]) (results_none Try.results42 _ _ _) rfl ⟨rfl, ev, HS5.out⟩
  · have hCas := fun j2 reg how (h : (k1.jobs.getD m Jb.zero).step = (j2, reg, how)) => runsC_cases (m := m) hz h
    rw [← HRC.out] at hCas
    have hlz : k1.load.getD m 0 = 0 := by omega
    have hlz2 := fun w' (hx : Ext W2 w') => (hr2 w' hx).trans (by rw [hlz])
    have hlz0 := hlz2 W2 (Ext.refl W2)
    have hJ := HK2.out.jobs m hm gj hg
    have hrg := hs.regs m hm
    have hStp := step_r20 b.base gj (s.tk m).regs (k1.jobs.getD m Jb.zero) W2 hJ HJ1.out hrg.2.2 hrg.2.1
    have hcas := HJ1.out.step (fun x hx => (hrg.2.2 x hx).1)
    have hom : m < os.length := by rw [HK2.out.jl]; exact hm
    have hrj : ∀ w', Chg (fun q => q = gj) W2 w' → w'.cell? ⟨b.gj, m, none⟩ = some (.pointer (some ⟨gj, 0, none⟩)) := fun w' hc => by
      have hr := HK2.out.jrow.at (fun _ => rfl) (i := m) (j := 0) hom (by decide)
      rw [Nat.mul_one, Nat.add_zero] at hr
      have e : os[m] = some gj := by rw [← hg]; exact (getD_at hom _).symm
      rw [e] at hr
      obtain ⟨cs, hB⟩ := hJ.blk
      exact cell_chg hr hc (fun e => by
        subst e
        have := (Blk.type hB (show Blk W2 _ _ 116 from HK2.out.jrow)).1
        exact absurd this (by decide))
    have hrj0 := hrj W2 (Chg.refl _ _)
    have HStp := Lib.hid hStp
    have HG := Lib.hid hg
    generalize hpp : (k1.jobs.getD m Jb.zero).step = p at *
    obtain ⟨j2, reg, how⟩ := p
    dsimp only at HStp hcas
    obtain ⟨hE0, hE1, hE2, hE3⟩ := hCas j2 reg how rfl
    have HE0 := Lib.hid hE0
    have HE1 := Lib.hid hE1
    have HE2 := Lib.hid hE2
    have HE3 := Lib.hid hE3
    have HRJ := Lib.hid hrj
    have hzd : decide (0 < (0 : Int)) = false := by decide
    clear hCas hE0 hE1 hE2 hE3 hStp hJ hpp hr2 hr20 hlz2 hrj hg hrg
    go_upto_region 4 with (fail)
    clear hlz0
    go_wp2_with (fail)
    refine HStp.out.mono ?_
    rintro e W3 ⟨rfl, hJ3, hC3⟩
    have hK3 := HK2.out.setJob (x := j2) hm HJL.out HG.out hC3 hJ3
    have hS3 := HS2.out.trans (⟨hK3, hC3.to (fun q _ hq => .inr (.inr (.inr (.inr (.inr (.inr (.inr (.inr ⟨m, by rw [HG.out, hq]⟩)))))))), fun q hq => .inl hq⟩ : StpR b B s W2 ev os W3 _ ev os)
    have hrj3 := HRJ.out W3 hC3
    have hc3 := hK3.cells W3 (Ext.refl W3)
    unfold rcs at hc3
    rw [hvt] at hc3
    have htb := hK3.tab.box.cell
    dsimp only at htb
    rw [HTN.out] at htb
    obtain ⟨-, -, -, y3⟩ := hK3.tab.cells (i := m) htl
    dsimp only at y3
    have HS3 := Lib.hid hS3
    clear hK3 hS3 hJ3 hC3 hc20 hc2 hfl hrj0 HStp HS2
    have hw1 : IntKind.i64.wrap (k1.t + 1) = k1.t + 1 := by rw [IntKind.wrap_i64]; omega
    have hw2 : IntKind.i64.wrap (k1.t + 1 - (stAt k1.tab m).arr) = k1.t + 1 - (stAt k1.tab m).arr := by rw [IntKind.wrap_i64]; omega
    have hw3 : wrap64 (k1.t + 1) = k1.t + 1 := by unfold wrap64; omega
    have hw4 : wrap64 (k1.t + 1 - (stAt k1.tab m).arr) = k1.t + 1 - (stAt k1.tab m).arr := by unfold wrap64; omega
    have HTK := Lib.hid (show (stAt k1.tab m).arr = (stAt k1.tab m).arr from rfl)
    generalize hta : (stAt k1.tab m).arr = ta at *
    have HTA := Lib.hid hta
    clear hta HTK
    go_upto_region 5 with (fail)
    go_quiet (fail)
    have hX0 : Ext W3 (W3.drewN nq) := (Ext.refl W3).drewN nq
    have HS4 := Lib.hid (HS3.out.ext hX0)
    generalize W3.drewN nq = W4 at *
    have hrj4 := hX0.cell hrj3
    clear hc3 htb y3 hrj3 HS3 hX0
    have hcs : how = 0 ∨ how = 1 ∨ how = 2 ∨ how = 3 := by rcases hcas with h | h | h | h <;> simp [h.1]
    rcases hcs with rfl | rfl | rfl | rfl
    · have HE := HE0.out rfl
      have HEX := Lib.hid HE
      clear HE HE0 HE1 HE2 HE3
      have hOver := over_r25 b B s _ ev os m 0 (k1.t + 1 - ta) W4 HS4.out.at' hm HTN.out HPM.out (by first | (show k1.evs.length ≤ 900; omega) | (show (k1.evs ++ [_]).length ≤ 900; rw [List.length_append, List.length_singleton]; omega)) (by have := HS4.out.chg.size; omega)
      have HOver := Lib.hid hOver
      clear hOver
      go_wp2_with (fail)
      refine HOver.out.mono ?_
      rintro e W6 ⟨rfl, ev6, hS6⟩
      have hS7 := HS4.out.trans hS6
      have hK7 := hS7.at'
      have hc7 := hK7.cells
      unfold rcs overK at hc7
      dsimp only at hc7
      rw [hvt] at hc7
      have hrw7 : ∀ w', Ext W6 w' → w'.cell? ⟨b.gj, m, none⟩ = some (.pointer (some ⟨gj, 0, none⟩)) := fun w' hx => by
        have hr := (hK7.ext hx).jrow.at (fun _ => rfl) (i := m) (j := 0) hom (by decide)
        rw [Nat.mul_one, Nat.add_zero] at hr
        have e : os[m] = some gj := by rw [← HG.out]; exact (getD_at hom _).symm
        rw [e] at hr
        exact hr
      have hjb : JobR W6 b.base gj j2 := by
        have h1 := hK7.jobs m hm gj HG.out
        have e : (k1.jobs.set m j2).getD m Jb.zero = j2 := by rw [getD_set (by rw [HJL.out]; exact hm), if_pos rfl]
        exact e ▸ h1
      have HMj := Lib.hid fun w' (hx : Ext W6 w') => mid_r20 b.base gj j2 w' (hjb.ext hx)
      have HMt := Lib.hid fun w' (hx : Ext W6 w') => mid_r21 b.gt b.gs k1.tab m j2.mid w' (hK7.ext hx).tab htl
      have HS7 := Lib.hid hS7
      clear hS6 hS7 hK7 hjb HOver
      go_upto_region 9 with (fail)
      refine wp_region_text (n := 16) (S := Ext W6) (by kernel_rfl) (by kernel_rfl) (Ext.refl W6).drew (fun K hK => ?_)
      (repeat (first | (apply hO_and (p := false) (q := true); (· rfl); (· rfl); (· rfl); (· rfl); simp only [Act.put, List.setIfInBounds_toArray, List.set_cons_zero, List.set_cons_succ]) | (apply hO_or (p := true) (q := true); (· rfl); (· rfl); (· rfl); (· rfl); simp only [Act.put, List.setIfInBounds_toArray, List.set_cons_zero, List.set_cons_succ]) | (apply hO_and; (· rfl); (· rfl); (· rfl); (· rfl); simp only [Act.put, List.setIfInBounds_toArray, List.set_cons_zero, List.set_cons_succ]) | (apply hO_or; (· rfl); (· rfl); (· rfl); (· rfl); simp only [Act.put, List.setIfInBounds_toArray, List.set_cons_zero, List.set_cons_succ]) | (apply hO_off; (· rfl); (· rfl); simp only [Act.put, List.setIfInBounds_toArray, List.set_cons_zero, List.set_cons_succ]) | (apply hO_un; (· rfl); (· rfl); simp only [Act.put, List.setIfInBounds_toArray, List.set_cons_zero, List.set_cons_succ]) | (apply hO_val; (· intro w hS; go_simp; with_reducible rfl); (· rfl); simp only [Act.put, List.setIfInBounds_toArray, List.set_cons_zero, List.set_cons_succ]) | (apply hO_call; (· rfl); (· intro w hS; go_simp; exact ⟨rfl, rfl⟩); (· intro w hS; exact callS hS (HMj.out _ hS)); simp only [Act.put, List.setIfInBounds_toArray, List.set_cons_zero, List.set_cons_succ]) | (apply hO_if; (· rfl); (· rfl); (· intro hif w hS; go_simp; with_reducible rfl); simp only [Act.put, List.setIfInBounds_toArray, List.set_cons_zero, List.set_cons_succ]) | (apply hO_ifcall; (· rfl); (· rfl); (· intro hif w hS; go_simp; exact ⟨rfl, rfl⟩); (· intro hif w hS; exact callS hS (HMj.out _ hS)); simp only [Act.put, List.setIfInBounds_toArray, List.set_cons_zero, List.set_cons_succ]))); refine hO_nil ?_
      refine hK _ ?_
      clear hK K
      intro W8 hX8
      simp only [List.drop_succ_cons, List.drop_zero]
      go_wp2_with (fail)
      refine (HMt.out W8 hX8).mono ?_
      rintro e W9 ⟨rfl, hT9, hC9⟩
      rw [modT_on _ HPM.out] at hT9
      have hS9 := (HS7.out.ext hX8).trans ((HS7.out.at'.ext hX8).tabS hC9 hT9)
      have HS9 := Lib.hid (hS9.state (k2 := runsK s k m touch) (by rw [HEX.out, ← HTA.out]; rfl))
      clear hS9 hT9 hC9
      go_wp2_with (fail)
      exact bodyPost_end (v := .tuple #[]) (results_none Try.results42 _ _ _) rfl ⟨rfl, ev6, HS9.out⟩
    · have HE := HE1.out rfl
      have HEX := Lib.hid HE
      clear HE HE0 HE1 HE2 HE3
      have hTell := tellR b B s _ ev os 7 m reg W4 HS4.out.at' (show k1.evs.length ≤ 1000 by omega) (by have := HS4.out.chg.size; omega)
      have HTell := Lib.hid hTell
      clear hTell
      go_wp2_with (fail)
      refine HTell.out.mono ?_
      rintro e W5 ⟨rfl, ev5, hS5⟩
      have HS5 := Lib.hid (HS4.out.trans hS5)
      clear hS5 HTell
      have hOver := over_r25 b B s _ ev5 os m 1 (k1.t + 1 - ta) W5 HS5.out.at' hm HTN.out HPM.out (by first | (show k1.evs.length ≤ 900; omega) | (show (k1.evs ++ [_]).length ≤ 900; rw [List.length_append, List.length_singleton]; omega)) (by have := HS5.out.chg.size; omega)
      have HOver := Lib.hid hOver
      clear hOver
      go_wp2_with (fail)
      refine HOver.out.mono ?_
      rintro e W6 ⟨rfl, ev6, hS6⟩
      have hS7 := HS5.out.trans hS6
      have hK7 := hS7.at'
      have hc7 := hK7.cells
      unfold rcs overK at hc7
      dsimp only at hc7
      rw [hvt] at hc7
      have hrw7 : ∀ w', Ext W6 w' → w'.cell? ⟨b.gj, m, none⟩ = some (.pointer (some ⟨gj, 0, none⟩)) := fun w' hx => by
        have hr := (hK7.ext hx).jrow.at (fun _ => rfl) (i := m) (j := 0) hom (by decide)
        rw [Nat.mul_one, Nat.add_zero] at hr
        have e : os[m] = some gj := by rw [← HG.out]; exact (getD_at hom _).symm
        rw [e] at hr
        exact hr
      have hjb : JobR W6 b.base gj j2 := by
        have h1 := hK7.jobs m hm gj HG.out
        have e : (k1.jobs.set m j2).getD m Jb.zero = j2 := by rw [getD_set (by rw [HJL.out]; exact hm), if_pos rfl]
        exact e ▸ h1
      have HMj := Lib.hid fun w' (hx : Ext W6 w') => mid_r20 b.base gj j2 w' (hjb.ext hx)
      have HMt := Lib.hid fun w' (hx : Ext W6 w') => mid_r21 b.gt b.gs k1.tab m j2.mid w' (hK7.ext hx).tab htl
      have HS7 := Lib.hid hS7
      clear hS6 hS7 hK7 hjb HOver
      go_upto_region 9 with (fail)
      refine wp_region_text (n := 16) (S := Ext W6) (by kernel_rfl) (by kernel_rfl) (Ext.refl W6).drew (fun K hK => ?_)
      (repeat (first | (apply hO_and (p := false) (q := true); (· rfl); (· rfl); (· rfl); (· rfl); simp only [Act.put, List.setIfInBounds_toArray, List.set_cons_zero, List.set_cons_succ]) | (apply hO_or (p := true) (q := true); (· rfl); (· rfl); (· rfl); (· rfl); simp only [Act.put, List.setIfInBounds_toArray, List.set_cons_zero, List.set_cons_succ]) | (apply hO_and; (· rfl); (· rfl); (· rfl); (· rfl); simp only [Act.put, List.setIfInBounds_toArray, List.set_cons_zero, List.set_cons_succ]) | (apply hO_or; (· rfl); (· rfl); (· rfl); (· rfl); simp only [Act.put, List.setIfInBounds_toArray, List.set_cons_zero, List.set_cons_succ]) | (apply hO_off; (· rfl); (· rfl); simp only [Act.put, List.setIfInBounds_toArray, List.set_cons_zero, List.set_cons_succ]) | (apply hO_un; (· rfl); (· rfl); simp only [Act.put, List.setIfInBounds_toArray, List.set_cons_zero, List.set_cons_succ]) | (apply hO_val; (· intro w hS; go_simp; with_reducible rfl); (· rfl); simp only [Act.put, List.setIfInBounds_toArray, List.set_cons_zero, List.set_cons_succ]) | (apply hO_call; (· rfl); (· intro w hS; go_simp; exact ⟨rfl, rfl⟩); (· intro w hS; exact callS hS (HMj.out _ hS)); simp only [Act.put, List.setIfInBounds_toArray, List.set_cons_zero, List.set_cons_succ]) | (apply hO_if; (· rfl); (· rfl); (· intro hif w hS; go_simp; with_reducible rfl); simp only [Act.put, List.setIfInBounds_toArray, List.set_cons_zero, List.set_cons_succ]) | (apply hO_ifcall; (· rfl); (· rfl); (· intro hif w hS; go_simp; exact ⟨rfl, rfl⟩); (· intro hif w hS; exact callS hS (HMj.out _ hS)); simp only [Act.put, List.setIfInBounds_toArray, List.set_cons_zero, List.set_cons_succ]))); refine hO_nil ?_
      refine hK _ ?_
      clear hK K
      intro W8 hX8
      simp only [List.drop_succ_cons, List.drop_zero]
      go_wp2_with (fail)
      refine (HMt.out W8 hX8).mono ?_
      rintro e W9 ⟨rfl, hT9, hC9⟩
      rw [modT_on _ HPM.out] at hT9
      have hS9 := (HS7.out.ext hX8).trans ((HS7.out.at'.ext hX8).tabS hC9 hT9)
      have HS9 := Lib.hid (hS9.state (k2 := runsK s k m touch) (by rw [HEX.out, ← HTA.out]; rfl))
      clear hS9 hT9 hC9
      go_wp2_with (fail)
      exact bodyPost_end (v := .tuple #[]) (results_none Try.results42 _ _ _) rfl ⟨rfl, ev6, HS9.out⟩
    · have HE := HE2.out rfl
      have HEX := Lib.hid HE
      clear HE HE0 HE1 HE2 HE3
      have hTell := tellR b B s _ ev os 7 m reg W4 HS4.out.at' (show k1.evs.length ≤ 1000 by omega) (by have := HS4.out.chg.size; omega)
      have HTell := Lib.hid hTell
      clear hTell
      go_wp2_with (fail)
      refine HTell.out.mono ?_
      rintro e W5 ⟨rfl, ev5, hS5⟩
      have HS5 := Lib.hid (HS4.out.trans hS5)
      clear hS5 HTell
      have hOver := over_r25 b B s _ ev5 os m 2 (k1.t + 1 - ta) W5 HS5.out.at' hm HTN.out HPM.out (by first | (show k1.evs.length ≤ 900; omega) | (show (k1.evs ++ [_]).length ≤ 900; rw [List.length_append, List.length_singleton]; omega)) (by have := HS5.out.chg.size; omega)
      have HOver := Lib.hid hOver
      clear hOver
      go_wp2_with (fail)
      refine HOver.out.mono ?_
      rintro e W6 ⟨rfl, ev6, hS6⟩
      have hS7 := HS5.out.trans hS6
      have hK7 := hS7.at'
      have hc7 := hK7.cells
      unfold rcs overK at hc7
      dsimp only at hc7
      rw [hvt] at hc7
      have hrw7 : ∀ w', Ext W6 w' → w'.cell? ⟨b.gj, m, none⟩ = some (.pointer (some ⟨gj, 0, none⟩)) := fun w' hx => by
        have hr := (hK7.ext hx).jrow.at (fun _ => rfl) (i := m) (j := 0) hom (by decide)
        rw [Nat.mul_one, Nat.add_zero] at hr
        have e : os[m] = some gj := by rw [← HG.out]; exact (getD_at hom _).symm
        rw [e] at hr
        exact hr
      have hjb : JobR W6 b.base gj j2 := by
        have h1 := hK7.jobs m hm gj HG.out
        have e : (k1.jobs.set m j2).getD m Jb.zero = j2 := by rw [getD_set (by rw [HJL.out]; exact hm), if_pos rfl]
        exact e ▸ h1
      have HMj := Lib.hid fun w' (hx : Ext W6 w') => mid_r20 b.base gj j2 w' (hjb.ext hx)
      have HMt := Lib.hid fun w' (hx : Ext W6 w') => mid_r21 b.gt b.gs (k1.tab.set m St.zero) m j2.mid w' (hK7.ext hx).tab (by rw [List.length_set]; exact htl)
      have HS7 := Lib.hid hS7
      clear hS6 hS7 hK7 hjb HOver
      go_upto_region 9 with (fail)
      refine wp_region_text (n := 16) (S := Ext W6) (by kernel_rfl) (by kernel_rfl) (Ext.refl W6).drew (fun K hK => ?_)
      (repeat (first | (apply hO_and (p := false) (q := true); (· rfl); (· rfl); (· rfl); (· rfl); simp only [Act.put, List.setIfInBounds_toArray, List.set_cons_zero, List.set_cons_succ]) | (apply hO_or (p := true) (q := true); (· rfl); (· rfl); (· rfl); (· rfl); simp only [Act.put, List.setIfInBounds_toArray, List.set_cons_zero, List.set_cons_succ]) | (apply hO_and; (· rfl); (· rfl); (· rfl); (· rfl); simp only [Act.put, List.setIfInBounds_toArray, List.set_cons_zero, List.set_cons_succ]) | (apply hO_or; (· rfl); (· rfl); (· rfl); (· rfl); simp only [Act.put, List.setIfInBounds_toArray, List.set_cons_zero, List.set_cons_succ]) | (apply hO_off; (· rfl); (· rfl); simp only [Act.put, List.setIfInBounds_toArray, List.set_cons_zero, List.set_cons_succ]) | (apply hO_un; (· rfl); (· rfl); simp only [Act.put, List.setIfInBounds_toArray, List.set_cons_zero, List.set_cons_succ]) | (apply hO_val; (· intro w hS; go_simp; with_reducible rfl); (· rfl); simp only [Act.put, List.setIfInBounds_toArray, List.set_cons_zero, List.set_cons_succ]) | (apply hO_call; (· rfl); (· intro w hS; go_simp; exact ⟨rfl, rfl⟩); (· intro w hS; exact callS hS (HMj.out _ hS)); simp only [Act.put, List.setIfInBounds_toArray, List.set_cons_zero, List.set_cons_succ]) | (apply hO_if; (· rfl); (· rfl); (· intro hif w hS; go_simp; with_reducible rfl); simp only [Act.put, List.setIfInBounds_toArray, List.set_cons_zero, List.set_cons_succ]) | (apply hO_ifcall; (· rfl); (· rfl); (· intro hif w hS; go_simp; exact ⟨rfl, rfl⟩); (· intro hif w hS; exact callS hS (HMj.out _ hS)); simp only [Act.put, List.setIfInBounds_toArray, List.set_cons_zero, List.set_cons_succ]))); refine hO_nil ?_
      refine hK _ ?_
      clear hK K
      intro W8 hX8
      simp only [List.drop_succ_cons, List.drop_zero]
      go_wp2_with (fail)
      refine (HMt.out W8 hX8).mono ?_
      rintro e W9 ⟨rfl, hT9, hC9⟩
      rw [modT_off _ (show (stAt (k1.tab.set m St.zero) m).pend = false by rw [stAt_set htl, if_pos rfl]; rfl)] at hT9
      have hS9 := (HS7.out.ext hX8).trans ((HS7.out.at'.ext hX8).tabS hC9 hT9)
      have HS9 := Lib.hid (hS9.state (k2 := runsK s k m touch) (by rw [HEX.out]; rfl))
      clear hS9 hT9 hC9
      go_wp2_with (fail)
      exact bodyPost_end (v := .tuple #[]) (results_none Try.results42 _ _ _) rfl ⟨rfl, ev6, HS9.out⟩
    · have HE := HE3.out rfl
      have HEX := Lib.hid HE
      clear HE HE0 HE1 HE2 HE3
      have hOver := over_r25 b B s _ ev os m 3 (k1.t + 1 - ta) W4 HS4.out.at' hm HTN.out HPM.out (by first | (show k1.evs.length ≤ 900; omega) | (show (k1.evs ++ [_]).length ≤ 900; rw [List.length_append, List.length_singleton]; omega)) (by have := HS4.out.chg.size; omega)
      have HOver := Lib.hid hOver
      clear hOver
      go_wp2_with (fail)
      refine HOver.out.mono ?_
      rintro e W6 ⟨rfl, ev6, hS6⟩
      have hS7 := HS4.out.trans hS6
      have hK7 := hS7.at'
      have hc7 := hK7.cells
      unfold rcs overK at hc7
      dsimp only at hc7
      rw [hvt] at hc7
      have hrw7 : ∀ w', Ext W6 w' → w'.cell? ⟨b.gj, m, none⟩ = some (.pointer (some ⟨gj, 0, none⟩)) := fun w' hx => by
        have hr := (hK7.ext hx).jrow.at (fun _ => rfl) (i := m) (j := 0) hom (by decide)
        rw [Nat.mul_one, Nat.add_zero] at hr
        have e : os[m] = some gj := by rw [← HG.out]; exact (getD_at hom _).symm
        rw [e] at hr
        exact hr
      have hjb : JobR W6 b.base gj j2 := by
        have h1 := hK7.jobs m hm gj HG.out
        have e : (k1.jobs.set m j2).getD m Jb.zero = j2 := by rw [getD_set (by rw [HJL.out]; exact hm), if_pos rfl]
        exact e ▸ h1
      have HMj := Lib.hid fun w' (hx : Ext W6 w') => mid_r20 b.base gj j2 w' (hjb.ext hx)
      have HMt := Lib.hid fun w' (hx : Ext W6 w') => mid_r21 b.gt b.gs (k1.tab.set m St.zero) m j2.mid w' (hK7.ext hx).tab (by rw [List.length_set]; exact htl)
      have HS7 := Lib.hid hS7
      clear hS6 hS7 hK7 hjb HOver
      go_upto_region 9 with (fail)
      refine wp_region_text (n := 16) (S := Ext W6) (by kernel_rfl) (by kernel_rfl) (Ext.refl W6).drew (fun K hK => ?_)
      (repeat (first | (apply hO_and (p := false) (q := true); (· rfl); (· rfl); (· rfl); (· rfl); simp only [Act.put, List.setIfInBounds_toArray, List.set_cons_zero, List.set_cons_succ]) | (apply hO_or (p := true) (q := true); (· rfl); (· rfl); (· rfl); (· rfl); simp only [Act.put, List.setIfInBounds_toArray, List.set_cons_zero, List.set_cons_succ]) | (apply hO_and; (· rfl); (· rfl); (· rfl); (· rfl); simp only [Act.put, List.setIfInBounds_toArray, List.set_cons_zero, List.set_cons_succ]) | (apply hO_or; (· rfl); (· rfl); (· rfl); (· rfl); simp only [Act.put, List.setIfInBounds_toArray, List.set_cons_zero, List.set_cons_succ]) | (apply hO_off; (· rfl); (· rfl); simp only [Act.put, List.setIfInBounds_toArray, List.set_cons_zero, List.set_cons_succ]) | (apply hO_un; (· rfl); (· rfl); simp only [Act.put, List.setIfInBounds_toArray, List.set_cons_zero, List.set_cons_succ]) | (apply hO_val; (· intro w hS; go_simp; with_reducible rfl); (· rfl); simp only [Act.put, List.setIfInBounds_toArray, List.set_cons_zero, List.set_cons_succ]) | (apply hO_call; (· rfl); (· intro w hS; go_simp; exact ⟨rfl, rfl⟩); (· intro w hS; exact callS hS (HMj.out _ hS)); simp only [Act.put, List.setIfInBounds_toArray, List.set_cons_zero, List.set_cons_succ]) | (apply hO_if; (· rfl); (· rfl); (· intro hif w hS; go_simp; with_reducible rfl); simp only [Act.put, List.setIfInBounds_toArray, List.set_cons_zero, List.set_cons_succ]) | (apply hO_ifcall; (· rfl); (· rfl); (· intro hif w hS; go_simp; exact ⟨rfl, rfl⟩); (· intro hif w hS; exact callS hS (HMj.out _ hS)); simp only [Act.put, List.setIfInBounds_toArray, List.set_cons_zero, List.set_cons_succ]))); refine hO_nil ?_
      refine hK _ ?_
      clear hK K
      intro W8 hX8
      simp only [List.drop_succ_cons, List.drop_zero]
      go_wp2_with (fail)
      refine (HMt.out W8 hX8).mono ?_
      rintro e W9 ⟨rfl, hT9, hC9⟩
      rw [modT_off _ (show (stAt (k1.tab.set m St.zero) m).pend = false by rw [stAt_set htl, if_pos rfl]; rfl)] at hT9
      have hS9 := (HS7.out.ext hX8).trans ((HS7.out.at'.ext hX8).tabS hC9 hT9)
      have HS9 := Lib.hid (hS9.state (k2 := runsK s k m touch) (by rw [HEX.out]; rfl))
      clear hS9 hT9 hC9
      go_wp2_with (fail)
      exact bodyPost_end (v := .tuple #[]) (results_none Try.results42 _ _ _) rfl ⟨rfl, ev6, HS9.out⟩
end Go.Proofs.Ytlaflbepidkmnaa
/- The document's kernel: Step. -/
namespace Go.Proofs.Ytlaflbepidkmnaa
open Go.RowKit
attribute [local go_sem] setCell_twice Ext.alloc Ext.drew
set_option linter.unusedSimpArgs false
set_option linter.unusedVariables false
set_option maxRecDepth 100000
set_option maxHeartbeats 1600000
attribute [local irreducible] Calls

theorem TabAt.sl {ty : TypeId} {w : World} {gt g : Nat} {tab : List St} (h : TabAt ty w gt g tab) : SlR StR 4 Any w (.slice (some ⟨g, 0, none⟩) tab.length tab.length) tab := by
  refine ⟨_, _, rfl, Nat.le_refl _, by have := h.len; unfold maxLen; omega, fun _ => ⟨g, 0, rfl, trivial, fun i hi => ?_⟩⟩
  obtain ⟨h0, h1, h2, h3⟩ := h.cells hi
  have e : stAt tab i = tab[i] := by unfold stAt; rw [getD_at hi]
  rw [e] at h0 h1 h2 h3
  rw [Nat.zero_add]
  exact ⟨h0, h1, h2, h3⟩
theorem footR_nil {b : RB} {os : List (Option Nat)} {ev : Value} {q : Nat} (h : footR b os (.slice none 0 0) q) : footR b os ev q := by
  rcases h with h | h | h | h | h | h | h | h | h
  · exact .inl h
  · exact .inr (.inl h)
  · exact .inr (.inr (.inl h))
  · exact .inr (.inr (.inr (.inl h)))
  · exact .inr (.inr (.inr (.inr (.inl h))))
  · exact .inr (.inr (.inr (.inr (.inr (.inl h)))))
  · exact .inr (.inr (.inr (.inr (.inr (.inr (.inl h))))))
  · cases h
  · exact .inr (.inr (.inr (.inr (.inr (.inr (.inr (.inr h)))))))
theorem RAt.clear {b : RB} {B B' : Nat} {w : World} {s : TSet} {k : KS} {ev : Value} {os : List (Option Nat)} (h : RAt b B w s k ev os) : RAt b B' (w.setCell ⟨b.gk, 11, none⟩ (.slice none 0 0)) s { k with evs := [] } (.slice none 0 0) os := by
  have hC : Chg (fun q => q = b.gk) w (w.setCell ⟨b.gk, 11, none⟩ (.slice none 0 0)) := (Chg.refl (fun q => q = b.gk) w).set (g := b.gk) (i := 11) (.inl rfl) (.slice none 0 0)
  have h1 := h.setBox (t := k.t) (ran := k.ran) (last := k.last) (ev' := .slice none 0 0) (evs := []) hC (h.box.set 11 (.slice none 0 0)) OwnL.nil
  exact { h1 with evs := OwnL.nil }
theorem RAt.fin {b : RB} {B : Nat} {w : World} {s : TSet} {k : KS} {ev : Value} {os : List (Option Nat)} (h : RAt b B w s k ev os) (hB : B ≤ w.heap.size) (r : Int) : StpR b B s w ev os ((w.setCell ⟨b.gk, 3, none⟩ (.int .i64 r)).setCell ⟨b.gk, 2, none⟩ (.int .i64 (k.t + 1))) { k with ran := r, t := k.t + 1 } ev os := by
  have h1 := h.store hB 3 (.int .i64 r) (t := k.t) (ran := r) (last := k.last) rfl (h.evSet 3 _) (fun _ h => h)
  have h2 := h1.at'.store (by have := h1.chg.size; omega) 2 (.int .i64 (k.t + 1)) (t := k.t + 1) (ran := r) (last := k.last) rfl (h1.at'.evSet 2 _) (fun _ h => h)
  exact h1.trans h2
theorem pend_set {tab : List St} {m i : Nat} {x : St} (h : (stAt (tab.set m x) i).pend = true) (hx : x.pend = true → (stAt tab m).pend = true) : (stAt tab i).pend = true := by
  by_cases hm : m < tab.length
  · rw [stAt_set hm] at h
    split at h
    · rename_i e; subst e; exact hx h
    · exact h
  · rwa [List.set_eq_of_length_le (by omega)] at h
theorem runsC_pend {k1 : KS} {m i : Nat} (h : (stAt (runsC k1 m).tab i).pend = true) : (stAt k1.tab i).pend = true := by
  unfold runsC at h
  split at h
  · exact pend_set h (fun hx => hx)
  · dsimp only at h
    have hk3 : ∀ (c : Prop) [Decidable c] (k2 : KS) (a b d : Int), (if c then k2.tell a b d else k2).tab = k2.tab := fun c _ k2 a b d => by split <;> rfl
    split at h
    · refine pend_set (x := St.zero) (m := m) ?_ (fun hx => by cases hx)
      rw [hk3] at h
      exact h
    · split at h
      · refine pend_set (x := St.zero) (m := m) ?_ (fun hx => by cases hx)
        rw [hk3] at h
        exact h
      · rw [hk3] at h
        exact pend_set h (fun hx => hx)
theorem step_r25 (b : RB) (B : Nat) (s : TSet) (k : KS) (ev : Value) (os : List (Option Nat)) (P : List Ev) (x : Inp) (vd : Value) (L : Nat → Prop) (w : World) (hs : KH s) (hu : ∀ i, i < s.tasks.length → 0 ≤ (s.tk i).ucb ∧ 0 ≤ (s.tk i).ecb) (h : RAt b B w s k ev os) (hI : KInv s P k) (hH : HasR s k os)
    (hr : -1 ≤ k.last) (hr2 : k.last < s.tasks.length) (hxa : x.arrive < 18446744073709551616) (hxt : x.touch < 18446744073709551616) (hL : ∀ q, L q → q < w.heap.size) (hlow : ∀ q, footR b os ev q → ¬ L q) (hdem : ∀ w', Same L w w' → SlR (DemL L w) 1 Any w' vd x.dems)
    (ht : k.t < 1099511627776) (hQ : ∀ i, i < s.tasks.length → 0 ≤ (s.tk i).q ∧ (s.tk i).q ≤ 10000) :
    Calls Try.prog 20 #[.pointer (some ⟨b.gk, 0, none⟩), .agg #[.int .u64 x.arrive, vd, .int .u64 x.touch]] w fun e w' => ∃ ev' os', e = .returned ev' ∧ RAt b w.heap.size w' s (stepK s k x) ev' os' ∧ Chg (footR b os ev) w w' ∧ (∀ q, footR b os' ev' q → footR b os ev q ∨ w.heap.size ≤ q) ∧ HasR s (stepK s k x) os' := by
  obtain ⟨A, c, hvt, hcc, hcm, _⟩ := h.tks
  obtain ⟨Ad, cd, hvd, _, _⟩ := (hdem w (fun _ _ => rfl)).form
  subst hvd
  have hn8 := hs.len.2
  unfold maxLen at hcm
  have hX1 := (Ext.refl w).alloc (.cells #[.int .u64 x.arrive, .slice Ad x.dems.length cd, .int .u64 x.touch] 49)
  have hbi1 := Blk.new w #[.int .u64 x.arrive, .slice Ad x.dems.length cd, .int .u64 x.touch] 49
  have hK1 := h.ext hX1
  have hc1 := hK1.cells _ (Ext.refl _)
  unfold rcs at hc1
  have hf1 := hK1.box.free
  have hT0 : 0 ≤ k.t := hI.lb.inv.t
  have hdt : decide (1099511627776 ≤ k.t) = false := decide_eq_false (by omega)
  have HI := Lib.hid hI
  have HK := Lib.hid h
  have HHR := Lib.hid hH
  have HK1 := Lib.hid hK1
  clear hI h hH hK1
  go_enter Try.func20, Try.ntmps20
  go_wp2_with (fail)
  have hK2 := HK1.out.clear (B' := w.heap.size)
  have hC2 : Chg (footR b os ev) w ((w.alloc (.cells #[.int .u64 x.arrive, .slice Ad x.dems.length cd, .int .u64 x.touch] 49)).setCell ⟨b.gk, 11, none⟩ (.slice none 0 0)) := (Chg.of_ext hX1).set (.inl (.inl rfl)) _
  have hne : w.heap.size ≠ b.gk := fun e => by
    have := HK.out.box.lt
    omega
  have hbi2 := hbi1.far (p := ⟨b.gk, 11, none⟩) hne (.slice none 0 0)
  have HK2 := Lib.hid hK2
  have HC2 := Lib.hid hC2
  clear hc1 hf1 hK2 hbi1 hX1 HK1 hne hC2
  generalize World.setCell _ _ _ = W2 at HK2 HC2 hbi2 ⊢
  have hsz2 := HC2.out.size
  refine (late_r25 b w.heap.size s _ _ os W2 hs HK2.out HI.out.lb.inv.lt (fun i hi hp => ⟨(HI.out.lb.inv.arr i hi hp).1, (HI.out.lb.inv.arr i hi hp).2.1⟩) (by dsimp only; omega) (by simp) hsz2).mono ?_
  rintro e W3 ⟨rfl, ev3, hS3⟩
  have hLB3 := HI.out.lb.late
  have hsame3 := lateP_same s { k with evs := [] } s.tasks.length
  have hKL3 : KLen s (lateK s { k with evs := [] }) := ⟨hLB3.inv.lj, hLB3.inv.lp, hLB3.inv.lt⟩
  have hHR3 : HasR s (lateK s { k with evs := [] }) os := fun i hi hp => by
    have e : (lateK s { k with evs := [] }).tab = k.tab := hsame3.1
    rw [e] at hp
    exact HHR.out i hi hp
  have ht3 : (lateK s { k with evs := [] }).t = k.t := hsame3.2.1
  have hl3 : (lateK s { k with evs := [] }).evs.length ≤ 8 := by
    have := hsame3.2.2
    simp only [List.length_nil] at this
    exact Nat.le_trans this (by omega)
  have hbi3 := hbi2.chg hS3.chg (HK2.out.footT.no hbi2 rfl)
  have hlow2 : ∀ q, footR b os (.slice none 0 0) q → ¬ L q := fun q hq => hlow q (footR_nil hq)
  have hL2 : ∀ q, L q → q < W2.heap.size := fun q hq => Nat.lt_of_lt_of_le (hL q hq) hsz2
  have hsm2 : Same L w W2 := fun q hq => HC2.out.block q (hL q hq) (fun f => hlow q f hq)
  have hsm3 := hsm2.trans (hS3.same hL2 hlow2)
  have hlow3 := hS3.low hL2 hlow2
  have hL3 : ∀ q, L q → q < W3.heap.size := fun q hq => Nat.lt_of_lt_of_le (hL2 q hq) hS3.chg.size
  have hdem3 : ∀ w', Same L W3 w' → SlR (DemL L W3) 1 Any w' (.slice Ad x.dems.length cd) x.dems := fun w' hw => (hdem w' (hsm3.trans hw)).keep (fun _ h => h) (fun b o y _ _ ⟨r, hr, hy⟩ => ⟨r, hr, fun w2 h2 => hy w2 (hsm3.trans h2)⟩)
  have hArr := arrive_r25 b w.heap.size s _ ev3 os x (.slice Ad x.dems.length cd) L W3 hs hS3.at' hKL3 hHR3 hxa hL3 hlow3 hdem3 (by rw [ht3]; exact hT0) (by rw [ht3]; omega) (by omega) (by have := hS3.chg.size; omega)
  have HArr := Lib.hid hArr
  have HS3 := Lib.hid hS3
  have hbic3 := hbi3.cell
  have hLB4 := hLB3.arrive hs x
  have hak := arrP_keep (x := x) hKL3 s.tasks.length
  have ht4 : (arriveK s x (lateK s { k with evs := [] })).t = k.t := hak.1.trans ht3
  have hevl4 : (arriveK s x (lateK s { k with evs := [] })).evs.length ≤ 100 := Nat.le_trans hak.2.2 (by omega)
  have hKL4 : KLen s (arriveK s x (lateK s { k with evs := [] })) := hak.2.1
  have hHE := Lib.hid (show stepK s k x = (let k1 := arriveK s x (lateK s { k with evs := [] }); let now := chooseS s k1.tab k1.last k1.t; let k2 := if now = -1 then k1.tell 10 (-1) 0 else runsK s { turnK s k1 now.toNat with last := now } now.toNat x.touch; { k2 with ran := now, t := k2.t + 1 }) from rfl)
  clear hArr hS3 hLB3 hsame3 hHR3 ht3 hl3 hlow2 hak hKL3
  go_wp2_with (fail)
  refine HArr.out.mono ?_
  rintro e W4 ⟨rfl, ev4, os4, hS4, hHR4⟩
  have hS24 := HS3.out.trans hS4
  have hbi4 := hbi2.chg hS24.chg (HK2.out.footT.no hbi2 rfl)
  have HS24 := Lib.hid hS24
  have hK4 := hS4.at'
  generalize arriveK s x (lateK s { k with evs := [] }) = k4 at *
  have hc4 := hK4.cells
  unfold rcs at hc4
  rw [hvt] at hc4
  have htl4 : k4.tab.length = s.tasks.length := hKL4.2.2
  have htb4 := fun w' (hx : Ext W4 w') => (hK4.ext hx).tab.box.cell
  rw [htl4] at htb4
  have hArrOk : ArrOk k4.tab := fun i hi => by
    cases hp : (stAt k4.tab i).pend with
    | false => exact .inr rfl
    | true =>
      have := hLB4.inv.arr i (by omega) hp
      rw [ht4] at this
      exact .inl ⟨this.1, by omega⟩
  have hcur := hLB4.inv.curs
  have hl4 : -1 ≤ k4.last ∧ k4.last < s.tasks.length := by omega
  have hCh := fun w' (hx : Ext W4 w') => choose_r24 s (.slice A s.tasks.length c) (.slice (some ⟨b.gs, 0, none⟩) s.tasks.length s.tasks.length) k4.tab k4.last k4.t w' (by rw [← hvt]; exact (hK4.ext hx).tks) (by have := (hK4.ext hx).tab.sl; rw [htl4] at this; exact this) htl4 hArrOk hQ
  unfold setV at hCh
  have HCh := Lib.hid hCh
  have HK4 := Lib.hid hK4
  have HHR4 := Lib.hid hHR4
  have HLB4 := Lib.hid hLB4
  have HT4 := Lib.hid ht4
  have HKL4 := Lib.hid hKL4
  have HTL4 := Lib.hid htl4
  have ht44 : k4.t < 1099511627776 := by rw [ht4]; exact ht
  have ht40 : 0 ≤ k4.t := by rw [ht4]; exact hT0
  clear hCh hK4 hHR4 hLB4 ht4 hKL4 htl4 hS4 hS24 hArrOk hcur hbi3 hbic3 HArr HS3 hsm3 hlow3 hL3 hdem3
  generalize hnow : chooseS s k4.tab k4.last k4.t = now at *
  have HNOW := Lib.hid hnow
  clear hnow
  go_upto_region 6 with (fail)
  refine wp_region_all (S := Ext W4) (by kernel_rfl) (by kernel_rfl) (Ext.refl W4).drew (fun K hK => ?_); (repeat (first | (apply hO_and; (· rfl); (· rfl); (· rfl); (· rfl); simp only [Act.put, List.setIfInBounds_toArray, List.set_cons_zero, List.set_cons_succ]) | (apply hO_or; (· rfl); (· rfl); (· rfl); (· rfl); simp only [Act.put, List.setIfInBounds_toArray, List.set_cons_zero, List.set_cons_succ]) | (apply hO_off; (· rfl); (· rfl); simp only [Act.put, List.setIfInBounds_toArray, List.set_cons_zero, List.set_cons_succ]) | (apply hO_val; (· intro w hS; go_simp; with_reducible rfl); (· rfl); simp only [Act.put, List.setIfInBounds_toArray, List.set_cons_zero, List.set_cons_succ]) | (apply hO_call; (· rfl); (· intro w hS; go_simp; exact ⟨rfl, rfl⟩); (· intro w hS; exact callX hS (HCh.out _ hS)); simp only [Act.put, List.setIfInBounds_toArray, List.set_cons_zero, List.set_cons_succ]) | (apply hO_if; (· rfl); (· rfl); (· intro hif w hS; go_simp; with_reducible rfl); simp only [Act.put, List.setIfInBounds_toArray, List.set_cons_zero, List.set_cons_succ]) | (apply hO_ifcall; (· rfl); (· rfl); (· intro hif w hS; go_simp; exact ⟨rfl, rfl⟩); (· intro hif w hS; exact callX hS (HCh.out _ hS)); simp only [Act.put, List.setIfInBounds_toArray, List.set_cons_zero, List.set_cons_succ]))); refine hO_nil ?_; refine hK _ ?_; clear hK K
  intro W5 hX5
  have hc5 := hc4 W5 hX5
  have hbi5 := hbi4.ext hX5
  have HK5 := Lib.hid (HK4.out.ext hX5)
  have HS5 := Lib.hid (HS24.out.ext hX5)
  have hB5 : w.heap.size ≤ W5.heap.size := by have := HS5.out.chg.size; omega
  have hw : wrap64 (k4.t + 1) = k4.t + 1 := by unfold wrap64; omega
  clear hc4 hbi4 hbi2 hX5 htb4 HCh
  by_cases hneg : now = -1
  · have hs2 : stepK s k x = { (k4.tell 10 (-1) 0) with ran := -1, t := (k4.tell 10 (-1) 0).t + 1 } := by
      rw [hHE.out]
      dsimp only
      rw [if_pos hneg, hneg]
    have HS := Lib.hid hs2
    subst hneg
    clear hs2
    go_wp2_with (fail)
    refine (tellR b w.heap.size s k4 ev4 os4 10 (-1) 0 W5 HK5.out (by omega) hB5).mono ?_
    rintro e W6 ⟨rfl, ev6, hS6⟩
    have hc6 := hS6.at'.cells W6 (Ext.refl W6)
    unfold rcs at hc6
    have hf6 := hS6.at'.box.free
    have hFin := hS6.at'.fin (by have := hS6.chg.size; omega) (-1)
    have hTot := (HS5.out.trans hS6).trans hFin
    have HTOT := Lib.hid hTot
    simp only [KS.tell] at hc6
    clear hFin hTot hS6 hc5
    go_wp2_with (fail)
    go_ret
    refine ⟨ev6, os4, rfl, by rw [HS.out]; exact HTOT.out.at', HC2.out.andThen HTOT.out.chg (fun q _ hq => footR_nil hq), fun q hq => ?_, by rw [HS.out]; exact HHR4.out⟩
    rcases HTOT.out.foot q hq with h | h
    · exact .inl (footR_nil h)
    · exact .inr (by omega)
  · obtain ⟨m, hm0⟩ : ∃ m : Nat, now = m := by
      rcases choose_spec s k4.tab k4.last k4.t with ⟨h1, h2⟩ | ⟨_, h2, _⟩ | ⟨_, m', h2, _⟩
      · rw [HNOW.out] at h2
        unfold heldS at h1
        simp only [Bool.and_eq_true, decide_eq_true_eq] at h1
        exact ⟨k4.last.toNat, by omega⟩
      · rw [HNOW.out] at h2; exact absurd h2 hneg
      · rw [HNOW.out] at h2; exact ⟨m', h2⟩
    subst hm0
    obtain ⟨g1, g2, g3, g4, g5, g6, g7, g8, g9⟩ := HLB4.out.turn hs HNOW.out
    have hp4 : (stAt k4.tab m).pend = true := by rw [← (g9 m).1]; exact g6
    obtain ⟨gj, hgj⟩ := HHR4.out m g5 hp4
    have hs2 : stepK s k x = { (runsK s { turnK s k4 m with last := (m : Int) } m x.touch) with ran := m, t := (runsK s { turnK s k4 m with last := (m : Int) } m x.touch).t + 1 } := by
      rw [hHE.out]
      dsimp only
      rw [if_neg hneg, Int.toNat_natCast]
    have HS := Lib.hid hs2
    have hTr := turn_r25 b w.heap.size s k4 ev4 os4 m W5 hs hu HK5.out HKL4.out g5 hp4 hl4.1 hl4.2 (fun i hi => had_lt hs HLB4.out.inv hi) (by omega) (by omega) hB5
    have hdn : ((m : Int) == -1) = false := by simp
    have HTr := Lib.hid hTr
    have hev := turnK_evs s k4 m
    have hlo := g1.load m g5
    have h2 := mul_small hs.reload.1 hs.reload.2 (popK_64 ((s.tk m).ucb.toNat))
    have harr := g1.arr m g5 g6
    have HG1 := Lib.hid g1
    have HG6 := Lib.hid g6
    have HG4 := Lib.hid g4
    have HPE := Lib.hid (fun i => (g9 i).1)
    have HGJ := Lib.hid hgj
    have hgt : (turnK s k4 m).t < 1099511627776 := by rw [g4]; exact ht44
    have hgt0 : 0 ≤ (turnK s k4 m).t := by rw [g4]; exact ht40
    clear hs2 hTr g1 g2 g3 g4 g6 g7 g8 g9 hgj hp4
    go_wp2_with (fail)
    refine HTr.out.mono ?_
    rintro e W6 ⟨rfl, ev6, hS6⟩
    generalize turnK s k4 m = k6 at *
    have hc6 := hS6.at'.cells W6 (Ext.refl W6)
    unfold rcs at hc6
    have hf6 := hS6.at'.box.free
    have hB6 : w.heap.size ≤ W6.heap.size := by have := hS6.chg.size; omega
    have hS7 := hS6.at'.store hB6 4 (.int .i64 (m : Int)) (t := k6.t) (ran := k6.ran) (last := (m : Int)) rfl (hS6.at'.evSet 4 _) (fun _ h => h)
    have hS57 := hS6.trans hS7
    have hbi7 := hbi5.chg hS57.chg (HK5.out.footT.no hbi5 rfl)
    have hbic7 := hbi7.cell
    have hRu := run_r25 b w.heap.size s { k6 with last := (m : Int) } ev6 os4 m gj x.touch _ hs hu hS7.at' ⟨HG1.out.lj, HG1.out.lp, HG1.out.lt⟩ g5 HG6.out HGJ.out hxt (HG1.out.job m g5 HG6.out) ⟨hlo.1, Int.le_trans hlo.2 h2.2⟩ ⟨harr.1, harr.2.1⟩ (by dsimp only; omega) (by dsimp only; omega) (by have := hS57.chg.size; omega)
    have HRu := Lib.hid hRu
    have HS57 := Lib.hid (HS5.out.trans hS57)
    clear hRu hS6 hS7 hS57 hbi7 hbi5 hc5 hlo h2 harr
    go_wp2_with (fail)
    refine HRu.out.mono ?_
    rintro e W8 ⟨rfl, ev8, hS8⟩
    have hrt : (runsK s { k6 with last := (m : Int) } m x.touch).t = k6.t := runsK_t _ _ _ _
    have HRP := Lib.hid (fun i => runsC_pend (k1 := { k6 with last := (m : Int), own := touchO k6.own m (x.touch &&& (s.tk m).ecb.toNat) }) (m := m) (i := i))
    have HRC := Lib.hid (runsK_C s { k6 with last := (m : Int) } m x.touch)
    have hc8 := hS8.at'.cells W8 (Ext.refl W8)
    unfold rcs at hc8
    have hf8 := hS8.at'.box.free
    have hFin := hS8.at'.fin (by have := hS8.chg.size; have := HS57.out.chg.size; omega) m
    rw [hrt] at hc8
    have hFin2 := hFin
    rw [hrt] at hFin2
    have hTot := (HS57.out.trans hS8).trans hFin2
    have HTOT := Lib.hid hTot
    have HRT := Lib.hid hrt
    have hw6 : wrap64 (k6.t + 1) = k6.t + 1 := by unfold wrap64; omega
    have hhr : HasR s (stepK s k x) os4 := by
      rw [HS.out]
      intro i hi hp
      refine HHR4.out i hi ?_
      rw [← HPE.out i]
      have h1 : (stAt (runsK s { k6 with last := (m : Int) } m x.touch).tab i).pend = true := hp
      rw [HRC.out] at h1
      exact HRP.out i h1
    have HHF := Lib.hid hhr
    clear hFin hFin2 hTot hS8 hrt hhr hc6 hbic7
    go_wp2_with (fail)
    go_ret
    refine ⟨ev8, os4, rfl, by rw [HS.out]; rw [HRT.out]; exact HTOT.out.at', HC2.out.andThen HTOT.out.chg (fun q _ hq => footR_nil hq), fun q hq => ?_, HHF.out⟩
    rcases HTOT.out.foot q hq with h | h
    · exact .inl (footR_nil h)
    · exact .inr (by omega)
end Go.Proofs.Ytlaflbepidkmnaa
