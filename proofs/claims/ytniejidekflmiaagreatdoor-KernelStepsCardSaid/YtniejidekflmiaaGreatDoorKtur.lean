/- The kernel: turns. -/
import Derived.Test.YtniejidekflmiaaGreatDoorProg
import Derived.Test.YtniejidekflmiaaGreatDoorBase
import Derived.Test.YtniejidekflmiaaGreatDoorHeldX
import Derived.Test.YtniejidekflmiaaGreatDoorHeldN
import Derived.Test.YtniejidekflmiaaGreatDoorApp
import Derived.Test.YtniejidekflmiaaGreatDoorExt0
import Derived.Test.YtniejidekflmiaaGreatDoorChg
import Derived.Test.YtniejidekflmiaaGreatDoorRowB
import Derived.Test.YtniejidekflmiaaGreatDoorKM
import Derived.Test.YtniejidekflmiaaGreatDoorKP1
import Derived.Test.YtniejidekflmiaaGreatDoorOpenI
import Derived.Test.YtniejidekflmiaaGreatDoorTskP
import Derived.Test.YtniejidekflmiaaGreatDoorKat
import Derived.Test.YtniejidekflmiaaGreatDoorKlate
import Derived.Test.YtniejidekflmiaaGreatDoorKbit
import Derived.Test.YtniejidekflmiaaGreatDoorKn0
import Derived.Deep.Cut
import Derived.Lib.Hide
import Derived.OwnWalk
import Derived.Maps.AppendAt
import Derived.BigQuiet
import Derived.Laws.Bits64b
import Derived.Laws.Bits128
namespace Go.Proofs.YtniejidekflmiaaGreatDoor
open Go.RowKit
attribute [local go_sem] setCell_twice Ext.alloc Ext.drew
set_option linter.unusedSimpArgs false
set_option linter.unusedVariables false
set_option maxRecDepth 100000
set_option maxHeartbeats 400000
attribute [local irreducible] Calls

/-- who ran last, by the kernel and by the model -/
def Link (k : KS) : Prop := k.last = if 0 ≤ k.ran ∧ (stAt k.tab k.ran.toNat).start = true then k.ran else -1
theorem stateI_any (b : KB) (B : Nat) (s : TSet) (k : KS) (ev : Value) (os : List Ow) (r : Int) (w : World) (h : KAt b B w s k ev os) (hz : ∀ i, i < s.tasks.length → (stAt k.tab i).pend = false → stAt k.tab i = St.zero) (hr : -1 ≤ r) (hr2 : r < s.tasks.length) :
    Calls Tryz.prog 60 #[.pointer (some ⟨b.gt, 0, none⟩), .int .i64 r] w fun e w' => e = .returned (stV (if 0 ≤ r then stAt k.tab r.toNat else St.zero)) ∧ Ext w w' := by
  by_cases h0 : 0 ≤ r
  · obtain ⟨m, rfl⟩ := Int.eq_ofNat_of_zero_le h0
    rw [if_pos h0]
    exact state_any b B s k ev os m w h (hz m (by omega))
  · rw [if_neg h0]
    refine (state_tab b.gt b.gs k.tab r w h.tab).mono ?_
    rintro e w' ⟨rfl, hb⟩
    refine ⟨?_, ⟨hb⟩⟩
    rw [hasB_neg k.tab (by omega)]
    rfl
theorem field_start (p q r : Bool) (t : Int) (w : World) : (Instr.field 105 (.agg #[.bool p, .bool q, .bool r, .int .i64 t]) 1).run Tryz.prog w = .ok (.bool q) w := by kernel_rfl
theorem field_arr (p q r : Bool) (t : Int) (w : World) : (Instr.field 105 (.agg #[.bool p, .bool q, .bool r, .int .i64 t]) 3).run Tryz.prog w = .ok (.int .i64 t) w := by kernel_rfl
theorem preK_load (s : TSet) (k : KS) (m : Nat) (h : k.load.length = s.tasks.length) : (preK s k m).load.length = s.tasks.length := by
  unfold preK
  split
  · exact h
  · exact h
theorem preK_had (s : TSet) (k : KS) (m : Nat) (h : k.had.length = s.tasks.length) : (preK s k m).had.length = s.tasks.length := by
  unfold preK
  split
  · show (k.had.set _ _).length = _
    rw [List.length_set]; exact h
  · exact h
theorem preK_last (s : TSet) (k : KS) (m : Nat) : (preK s k m).last = k.last := by
  unfold preK
  split <;> rfl
theorem lostO_lt (own : List Int) (i : Int) (had : Nat) (h : had < 18446744073709551616) : lostO own i had < 18446744073709551616 := by
  unfold lostO
  have h1 : had &&& heldO own i < 2 ^ 64 := Nat.and_lt_two_pow _ (heldP_lt own i 64)
  exact Nat.xor_lt_two_pow (n := 64) (by omega) h1
theorem popN_le (k x : Nat) : popN k x ≤ k := by
  unfold popN
  exact Nat.le_trans List.countP_le_length (by simp)
theorem mul_small {r : Int} (h0 : 0 ≤ r) (h1 : r ≤ 10000) {p : Nat} (hp : p ≤ 64) : 0 ≤ r * (p : Int) ∧ r * (p : Int) ≤ 640000 := by
  constructor
  · exact Int.mul_nonneg h0 (by omega)
  · have := Int.mul_le_mul h1 (show (p : Int) ≤ 64 by omega) (by omega) (by omega)
    omega
theorem had_lt {s : TSet} (hs : KH s) {P : List Ev} {k : KS} {cur : Int} (h : LInv s P k cur) {m : Nat} (hm : m < s.tasks.length) : k.had.getD m 0 < 18446744073709551616 := by
  rw [← h.had m hm]
  have := (hs.bits m hm).1
  exact Nat.lt_of_le_of_lt Nat.and_le_right this
theorem and_ucb (u : Int) (x : Nat) (h0 : 0 ≤ u) (h1 : u.toNat < 2 ^ 64) (hx : x < 2 ^ 64) : bits BinOp.and IntKind.u64 u (x : Int) = ((x &&& u.toNat : Nat) : Int) := by
  obtain ⟨n, rfl⟩ := Int.eq_ofNat_of_zero_le h0
  rw [Int.toNat_natCast] at h1 ⊢
  rw [bits_and_u64_nat _ _ (by omega) (by omega), Nat.and_comm]
theorem turns_any (b : KB) (B : Nat) (s : TSet) (k : KS) (ev : Value) (os : List Ow) (P : List Ev) (m : Nat) (L : Nat → Prop) (w : World) (hs : KH s) (hu : ∀ i, i < s.tasks.length → 0 ≤ (s.tk i).ucb ∧ 0 ≤ (s.tk i).ecb) (h : KAt b B w s k ev os) (hLI : LInv s P k k.last) (hHP : HasP s k os) (hlk : Link k)
    (hm : m < s.tasks.length) (hp : (stAt k.tab m).pend = true) (hr : -1 ≤ k.ran) (hr2 : k.ran < s.tasks.length) (hL : ∀ q, L q → q < w.heap.size) (hlow : ∀ q, foot b os ev q → ¬ L q) (hD : ∀ w', Same L w w' → DB w')
    (ht : k.t ≤ 1099511627776) (hl : k.evs.length ≤ 200) (hB : B ≤ w.heap.size) :
    Calls Tryz.prog 41 #[.pointer (some ⟨b.gk, 0, none⟩), .int .i64 m] w fun e w' => e = .returned (.tuple #[]) ∧ ∃ ev' os', Stp b B s w ev os w' { turnK s k m with last := m } ev' os' ∧ HasP s { turnK s k m with last := m } os' := by
  obtain ⟨A, c, hvt, hcc, hcm, _⟩ := h.tks
  have hn8 := hs.len.2
  unfold maxLen at hcm
  have hbox := h.box
  unfold kcs at hbox
  rw [hvt] at hbox
  have hc : ∀ w', Ext w w' → ∀ j, w'.cell? ⟨b.gk, j, none⟩ = #[.int .i64 s.reload, .slice A s.tasks.length c, .int .i64 k.t, .int .i64 k.ran, .pointer (some ⟨b.gp, 0, none⟩), .pointer (some ⟨b.gc, 0, none⟩), .pointer (some ⟨b.gt, 0, none⟩), .slice (some ⟨b.go, 0, none⟩) s.tasks.length s.tasks.length, ev][j]? := fun w' hx => (hbox.ext hx).cell
  have hsT := fun w' (hx : Ext w w') => stateI_any b B s k ev os k.ran w' (h.ext hx) hLI.zero hr hr2
  have HSt := Lib.hid hsT
  have HK := Lib.hid h
  have HLI := Lib.hid hLI
  have HHP := Lib.hid hHP
  have HLK := Lib.hid hlk
  have HP := Lib.hid hp
  clear hsT hbox h hLI hHP hlk hp
  by_cases hrm : k.ran = m
  · have hne : (k.ran != (m : Int)) = false := by simp [hrm]
    have hne2 : (!(k.ran == (m : Int))) = false := by simp [hrm]
    have hne3 : (k.ran == (m : Int)) = true := by simp [hrm]
    have HRM := Lib.hid hrm
    have hpre : preK s k m = k := by
      unfold preK
      rw [if_neg]
      rintro ⟨h1, h2⟩
      have := HLK.out
      unfold Link at this
      split at this <;> omega
    have hls : ∀ i, i < s.tasks.length → (stAt k.tab i).start = true → (m : Int) ≠ i → (owAt os i).had = k.had.getD i 0 := fun i hi hsi hmi => (HK.out.loose i hi hsi).2 (by
      have := HLK.out
      unfold Link at this
      split at this <;> omega)
    have HLs := Lib.hid hls
    have HPRE := Lib.hid hpre
    clear hrm hls hpre
    go_enter Tryz.func41, Tryz.ntmps41
    go_upto_region 0 with (fail)
    refine wp_region_all (S := Ext w) (by kernel_rfl) (by kernel_rfl) (Ext.refl w).drew (fun K hK => ?_); (repeat (first | (apply hO_and (p := false) (q := true); (· rfl); (· rfl); (· rfl); (· rfl); simp only [Act.put, List.setIfInBounds_toArray, List.set_cons_zero, List.set_cons_succ]) | (apply hO_or (p := true) (q := true); (· rfl); (· rfl); (· rfl); (· rfl); simp only [Act.put, List.setIfInBounds_toArray, List.set_cons_zero, List.set_cons_succ]) | (apply hO_and; (· rfl); (· rfl); (· rfl); (· rfl); simp only [Act.put, List.setIfInBounds_toArray, List.set_cons_zero, List.set_cons_succ]) | (apply hO_or; (· rfl); (· rfl); (· rfl); (· rfl); simp only [Act.put, List.setIfInBounds_toArray, List.set_cons_zero, List.set_cons_succ]) | (apply hO_off; (· rfl); (· rfl); simp only [Act.put, List.setIfInBounds_toArray, List.set_cons_zero, List.set_cons_succ]) | (apply hO_un; (· rfl); (· rfl); simp only [Act.put, List.setIfInBounds_toArray, List.set_cons_zero, List.set_cons_succ]) | (apply hO_val; (· intro w hS; go_simp; with_reducible rfl); (· rfl); simp only [Act.put, List.setIfInBounds_toArray, List.set_cons_zero, List.set_cons_succ]) | (apply hO_call; (· rfl); (· intro w hS; go_simp; exact ⟨rfl, rfl⟩); (· intro w hS; exact callE hS (HSt.out _ hS)); simp only [Act.put, List.setIfInBounds_toArray, List.set_cons_zero, List.set_cons_succ]) | (apply hO_if; (· rfl); (· rfl); (· intro hif w hS; go_simp; with_reducible rfl); simp only [Act.put, List.setIfInBounds_toArray, List.set_cons_zero, List.set_cons_succ]) | (apply hO_ifcall; (· rfl); (· rfl); (· intro hif w hS; go_simp; exact ⟨rfl, rfl⟩); (· intro hif w hS; exact callE hS (HSt.out _ hS)); simp only [Act.put, List.setIfInBounds_toArray, List.set_cons_zero, List.set_cons_succ]))); refine hO_nil ?_; refine hK _ ?_; clear hK K
    intro W2 hX2
    have HK2 := Lib.hid (HK.out.ext hX2)
    have HS2 := Lib.hid ((Stp.refl HK.out).ext hX2)
    have HHP2 := HHP
    have e1 : k.tab = k.tab := rfl
    have e2 : k.t = k.t := rfl
    have e3 : k.ran = k.ran := rfl
    have e4 : k.evs.length ≤ 201 := by omega
    clear hc
    have hbox2 := HK2.out.box
    unfold kcs at hbox2
    rw [hvt] at hbox2
    have hc2 : ∀ w', Ext W2 w' → ∀ j, w'.cell? ⟨b.gk, j, none⟩ = #[.int .i64 s.reload, .slice A s.tasks.length c, .int .i64 k.t, .int .i64 k.ran, .pointer (some ⟨b.gp, 0, none⟩), .pointer (some ⟨b.gc, 0, none⟩), .pointer (some ⟨b.gt, 0, none⟩), .slice (some ⟨b.go, 0, none⟩) s.tasks.length s.tasks.length, ev][j]? := fun w' hx => (hbox2.ext hx).cell
    have hc20 := hc2 W2 (Ext.refl _)
    have hsm := fun w' (hx : Ext W2 w') => state_any b B s k ev os m w' (HK2.out.ext hx) (by exact HLI.out.zero m hm)
    have HSM := Lib.hid hsm
    have hlt2 := HK2.out.tab.len
    have hkl : k.tab.length = s.tasks.length := by exact HLI.out.lt
    have hrl : m < os.length := by rw [HK2.out.rl]; exact hm
    have hlen2 : k.load.length = s.tasks.length := by rw [← HPRE.out]; exact preK_load s k m HLI.out.ll
    have hhl2 : k.had.length = s.tasks.length := by rw [← HPRE.out]; exact preK_had s k m HLI.out.lh
    clear hsm hbox2
    cases hst : (stAt k.tab m).start with
    | false =>
      have HST := Lib.hid hst
      have hX : stAt k.tab m = ⟨(stAt k.tab m).pend, false, (stAt k.tab m).mid, (stAt k.tab m).arr⟩ := by rw [← hst]
      rw [hX] at HSM
      unfold stV at HSM
      dsimp only at HSM
      clear hX hst
      go_wp2_with (fail)
      refine (HSM.out W2 (Ext.refl _)).mono ?_
      rintro e W3 ⟨rfl, hX3⟩
      have hfld := field_start (stAt k.tab m).pend false (stAt k.tab m).mid (stAt k.tab m).arr
      go_wp2_with (fail)
      refine (notes_any b B s k ev os 4 m 0 W3 (HK2.out.ext hX3) (by omega) (by have := hX3.size; have := HS2.out.chg.size; omega)).mono ?_
      rintro e W4 ⟨rfl, ev4, hS4⟩
      have hK4 := hS4.at'
      have hbox4 := hK4.box
      unfold kcs at hbox4
      simp only [KS.tell] at hbox4
      have hc4 := hbox4.cell
      have hBeg := begin_tab b.gt b.gs k.tab m W4 hK4.tab (by omega)
      have HBeg := Lib.hid hBeg
      have HK4 := Lib.hid hK4
      have HS4 := Lib.hid hS4
      clear hBeg hbox4 hK4 hS4 hc2 hc20
      go_wp2_with (fail)
      refine HBeg.out.mono ?_
      rintro e W5 ⟨rfl, hT5, hC5⟩
      have hmod : modT k.tab m (fun x => { x with start := true }) = k.tab.set m { stAt k.tab m with start := true } := modT_on _ (by exact HP.out)
      rw [hmod] at hT5
      have hLo : ∀ i, i < s.tasks.length → (stAt k.tab i).start = true → (owAt os i).load = (k.load.set m 0).getD i 0 ∧ ((m : Int) ≠ i → (owAt os i).had = k.had.getD i 0) := fun i hi hsi => by
        have hne : m ≠ i := by rintro rfl; rw [HST.out] at hsi; cases hsi
        refine ⟨?_, fun hmi => HLs.out i hi (by exact hsi) hmi⟩
        rw [getD_set (by omega), if_neg hne]
        exact (HK2.out.loose i hi hsi).1
      have hK4b : KAt b B W4 s { (k.tell 4 m 0) with last := m, load := k.load.set m 0 } ev4 os := { HK4.out with loose := hLo }
      have hK5 := hK4b.setTab hC5 hT5 (fun i hi hsi => by
        dsimp only
        by_cases e : m = i
        · subst e
          refine ⟨?_, fun hmi => absurd rfl hmi⟩
          rw [getD_set (by omega), if_pos rfl]
          exact (HHP2.out m hm (by exact HP.out)).2 (by exact HST.out)
        · rw [stAt_set (by omega), if_neg e] at hsi
          exact hLo i hi hsi)
      have hEq : ({ ({ (k.tell 4 m 0) with last := m, load := k.load.set m 0 } : KS) with tab := k.tab.set m { stAt k.tab m with start := true } } : KS) = { turnK s k m with last := m } := by
        unfold turnK
        dsimp only
        rw [HPRE.out, if_pos HST.out]
        rfl
      have hS5 : Stp b B s W4 ev4 os W5 _ ev4 os := ⟨hK5, hC5.to (fun q _ hq => .inr (.inl hq)), fun q hq => .inl hq⟩
      have hS6 := (((HS2.out.ext hX3).trans HS4.out).trans hS5).state (k2 := { turnK s k m with last := m }) hEq
      have hhp : HasP s { turnK s k m with last := m } os := by
        rw [← hEq]
        intro i hi hpi
        have hpi2 : (stAt (k.tab.set m { stAt k.tab m with start := true }) i).pend = true := hpi
        rw [stAt_set (by omega)] at hpi2
        by_cases e : m = i
        · subst e
          refine ⟨(HHP2.out m hm (by exact HP.out)).1, fun _ => (HHP2.out m hm (by exact HP.out)).2 (by exact HST.out)⟩
        · rw [if_neg e] at hpi2
          refine ⟨(HHP2.out i hi hpi2).1, fun hsi => (HHP2.out i hi hpi2).2 ?_⟩
          have hsi2 : (stAt (k.tab.set m { stAt k.tab m with start := true }) i).start = false := hsi
          rw [stAt_set (by omega), if_neg e] at hsi2
          exact hsi2
      have HS6 := Lib.hid hS6
      have HHP6 := Lib.hid hhp
      clear hS6 hhp hEq hS5 hK5 hK4b hLo hT5 hC5 hmod
      go_wp2_with (fail)
      exact bodyPost_end (v := .tuple #[]) (results_none Tryz.results41 _ _ _) rfl ⟨rfl, ev4, os, HS6.out, HHP6.out⟩

    | true =>
      have HST := Lib.hid hst
      have hX : stAt k.tab m = ⟨(stAt k.tab m).pend, true, (stAt k.tab m).mid, (stAt k.tab m).arr⟩ := by rw [← hst]
      rw [hX] at HSM
      unfold stV at HSM
      dsimp only at HSM
      clear hX hst
      go_wp2_with (fail)
      refine (HSM.out W2 (Ext.refl _)).mono ?_
      rintro e W3 ⟨rfl, hX3⟩
      have hc3 := hc2 W3 hX3
      have hfld := field_start (stAt k.tab m).pend true (stAt k.tab m).mid (stAt k.tab m).arr
      clear hc20 hc2
      have hEq : ({ k with last := m } : KS) = { turnK s k m with last := m } := by
        unfold turnK
        dsimp only
        rw [HPRE.out, if_neg (by rw [HST.out]; decide), if_neg (by
          have := HLK.out
          unfold Link at this
          rw [HRM.out, if_pos ⟨by omega, by rw [Int.toNat_natCast]; exact HST.out⟩] at this
          rw [this]; simp)]
      have hK5 : KAt b B W3 s { k with last := m } ev os := (HK2.out.ext hX3).setLast m (fun i hi hsi hmi => HLs.out i hi (by exact hsi) hmi)
      have hS6 := ((HS2.out.ext hX3).trans (⟨hK5, Chg.refl _ _, fun q hq => .inl hq⟩ : Stp b B s W3 ev os W3 { k with last := m } ev os)).state (k2 := { turnK s k m with last := m }) hEq
      have hhp : HasP s { turnK s k m with last := m } os := by rw [← hEq]; exact HHP2.out
      have HS6 := Lib.hid hS6
      have HHP6 := Lib.hid hhp
      clear hS6 hhp hEq hK5
      go_wp2_with (fail)
      exact bodyPost_end (v := .tuple #[]) (results_none Tryz.results41 _ _ _) rfl ⟨rfl, ev, os, HS6.out, HHP6.out⟩
  · have HRM := Lib.hid hrm
    have hne : (k.ran != (m : Int)) = true := by simp [hrm]
    have hne2 : (!(k.ran == (m : Int))) = true := by simp [hrm]
    have hne3 : (k.ran == (m : Int)) = false := by simp [hrm]
    cases hxs : (if 0 ≤ k.ran then stAt k.tab k.ran.toNat else St.zero).start with
    | false =>
      have hlast : k.last = -1 := by
        have := HLK.out
        unfold Link at this
        rw [if_neg] at this
        · exact this
        · rintro ⟨h1, h2⟩
          rw [if_pos h1, h2] at hxs
          cases hxs
      have hpre : preK s k m = k := by
        unfold preK
        rw [if_neg]
        rintro ⟨h1, h2⟩
        omega
      have hls : ∀ i, i < s.tasks.length → (stAt k.tab i).start = true → (m : Int) ≠ i → (owAt os i).had = k.had.getD i 0 := fun i hi hsi hmi => (HK.out.loose i hi hsi).2 (by omega)
      have hhb0 : k.had.getD m 0 < 18446744073709551616 := had_lt hs HLI.out hm
      have HHB := Lib.hid hhb0
      have HLs := Lib.hid hls
      have HPRE := Lib.hid hpre
      generalize hxx : (if 0 ≤ k.ran then stAt k.tab k.ran.toNat else St.zero) = xx at *
      obtain ⟨x0, x1, x2, x3⟩ := xx
      dsimp only at hxs
      subst hxs
      unfold stV at HSt
      dsimp only at HSt
      have hfld0 := field_start x0 false x2 x3
      clear hrm hls hpre hlast hxx hhb0
      go_enter Tryz.func41, Tryz.ntmps41
      go_upto_region 0 with (fail)
      refine wp_region_all (S := Ext w) (by kernel_rfl) (by kernel_rfl) (Ext.refl w).drew (fun K hK => ?_); (repeat (first | (apply hO_and (p := false) (q := true); (· rfl); (· rfl); (· rfl); (· rfl); simp only [Act.put, List.setIfInBounds_toArray, List.set_cons_zero, List.set_cons_succ]) | (apply hO_or (p := true) (q := true); (· rfl); (· rfl); (· rfl); (· rfl); simp only [Act.put, List.setIfInBounds_toArray, List.set_cons_zero, List.set_cons_succ]) | (apply hO_and; (· rfl); (· rfl); (· rfl); (· rfl); simp only [Act.put, List.setIfInBounds_toArray, List.set_cons_zero, List.set_cons_succ]) | (apply hO_or; (· rfl); (· rfl); (· rfl); (· rfl); simp only [Act.put, List.setIfInBounds_toArray, List.set_cons_zero, List.set_cons_succ]) | (apply hO_off; (· rfl); (· rfl); simp only [Act.put, List.setIfInBounds_toArray, List.set_cons_zero, List.set_cons_succ]) | (apply hO_un; (· rfl); (· rfl); simp only [Act.put, List.setIfInBounds_toArray, List.set_cons_zero, List.set_cons_succ]) | (apply hO_val; (· intro w hS; go_simp; with_reducible rfl); (· rfl); simp only [Act.put, List.setIfInBounds_toArray, List.set_cons_zero, List.set_cons_succ]) | (apply hO_call; (· rfl); (· intro w hS; go_simp; exact ⟨rfl, rfl⟩); (· intro w hS; exact callE hS (HSt.out _ hS)); simp only [Act.put, List.setIfInBounds_toArray, List.set_cons_zero, List.set_cons_succ]) | (apply hO_if; (· rfl); (· rfl); (· intro hif w hS; go_simp; with_reducible rfl); simp only [Act.put, List.setIfInBounds_toArray, List.set_cons_zero, List.set_cons_succ]) | (apply hO_ifcall; (· rfl); (· rfl); (· intro hif w hS; go_simp; exact ⟨rfl, rfl⟩); (· intro hif w hS; exact callE hS (HSt.out _ hS)); simp only [Act.put, List.setIfInBounds_toArray, List.set_cons_zero, List.set_cons_succ]))); refine hO_nil ?_; refine hK _ ?_; clear hK K
      intro W2 hX2
      have HK2 := Lib.hid (HK.out.ext hX2)
      have HS2 := Lib.hid ((Stp.refl HK.out).ext hX2)
      have HHP2 := HHP
      have e1 : k.tab = k.tab := rfl
      have e2 : k.t = k.t := rfl
      have e3 : k.ran = k.ran := rfl
      have e4 : k.evs.length ≤ 201 := by omega
      clear hc hfld0
      have hbox2 := HK2.out.box
      unfold kcs at hbox2
      rw [hvt] at hbox2
      have hc2 : ∀ w', Ext W2 w' → ∀ j, w'.cell? ⟨b.gk, j, none⟩ = #[.int .i64 s.reload, .slice A s.tasks.length c, .int .i64 k.t, .int .i64 k.ran, .pointer (some ⟨b.gp, 0, none⟩), .pointer (some ⟨b.gc, 0, none⟩), .pointer (some ⟨b.gt, 0, none⟩), .slice (some ⟨b.go, 0, none⟩) s.tasks.length s.tasks.length, ev][j]? := fun w' hx => (hbox2.ext hx).cell
      have hc20 := hc2 W2 (Ext.refl _)
      have hsm := fun w' (hx : Ext W2 w') => state_any b B s k ev os m w' (HK2.out.ext hx) (by exact HLI.out.zero m hm)
      have HSM := Lib.hid hsm
      have hlt2 := HK2.out.tab.len
      have hkl : k.tab.length = s.tasks.length := by exact HLI.out.lt
      have hrl : m < os.length := by rw [HK2.out.rl]; exact hm
      have hlen2 : k.load.length = s.tasks.length := by rw [← HPRE.out]; exact preK_load s k m HLI.out.ll
      have hhl2 : k.had.length = s.tasks.length := by rw [← HPRE.out]; exact preK_had s k m HLI.out.lh
      clear hsm hbox2
      cases hst : (stAt k.tab m).start with
      | false =>
        have HST := Lib.hid hst
        have hX : stAt k.tab m = ⟨(stAt k.tab m).pend, false, (stAt k.tab m).mid, (stAt k.tab m).arr⟩ := by rw [← hst]
        rw [hX] at HSM
        unfold stV at HSM
        dsimp only at HSM
        clear hX hst
        go_wp2_with (fail)
        refine (HSM.out W2 (Ext.refl _)).mono ?_
        rintro e W3 ⟨rfl, hX3⟩
        have hfld := field_start (stAt k.tab m).pend false (stAt k.tab m).mid (stAt k.tab m).arr
        go_wp2_with (fail)
        refine (notes_any b B s k ev os 4 m 0 W3 (HK2.out.ext hX3) (by omega) (by have := hX3.size; have := HS2.out.chg.size; omega)).mono ?_
        rintro e W4 ⟨rfl, ev4, hS4⟩
        have hK4 := hS4.at'
        have hbox4 := hK4.box
        unfold kcs at hbox4
        simp only [KS.tell] at hbox4
        have hc4 := hbox4.cell
        have hBeg := begin_tab b.gt b.gs k.tab m W4 hK4.tab (by omega)
        have HBeg := Lib.hid hBeg
        have HK4 := Lib.hid hK4
        have HS4 := Lib.hid hS4
        clear hBeg hbox4 hK4 hS4 hc2 hc20
        go_wp2_with (fail)
        refine HBeg.out.mono ?_
        rintro e W5 ⟨rfl, hT5, hC5⟩
        have hmod : modT k.tab m (fun x => { x with start := true }) = k.tab.set m { stAt k.tab m with start := true } := modT_on _ (by exact HP.out)
        rw [hmod] at hT5
        have hLo : ∀ i, i < s.tasks.length → (stAt k.tab i).start = true → (owAt os i).load = (k.load.set m 0).getD i 0 ∧ ((m : Int) ≠ i → (owAt os i).had = k.had.getD i 0) := fun i hi hsi => by
          have hne : m ≠ i := by rintro rfl; rw [HST.out] at hsi; cases hsi
          refine ⟨?_, fun hmi => HLs.out i hi (by exact hsi) hmi⟩
          rw [getD_set (by omega), if_neg hne]
          exact (HK2.out.loose i hi hsi).1
        have hK4b : KAt b B W4 s { (k.tell 4 m 0) with last := m, load := k.load.set m 0 } ev4 os := { HK4.out with loose := hLo }
        have hK5 := hK4b.setTab hC5 hT5 (fun i hi hsi => by
          dsimp only
          by_cases e : m = i
          · subst e
            refine ⟨?_, fun hmi => absurd rfl hmi⟩
            rw [getD_set (by omega), if_pos rfl]
            exact (HHP2.out m hm (by exact HP.out)).2 (by exact HST.out)
          · rw [stAt_set (by omega), if_neg e] at hsi
            exact hLo i hi hsi)
        have hEq : ({ ({ (k.tell 4 m 0) with last := m, load := k.load.set m 0 } : KS) with tab := k.tab.set m { stAt k.tab m with start := true } } : KS) = { turnK s k m with last := m } := by
          unfold turnK
          dsimp only
          rw [HPRE.out, if_pos HST.out]
          rfl
        have hS5 : Stp b B s W4 ev4 os W5 _ ev4 os := ⟨hK5, hC5.to (fun q _ hq => .inr (.inl hq)), fun q hq => .inl hq⟩
        have hS6 := (((HS2.out.ext hX3).trans HS4.out).trans hS5).state (k2 := { turnK s k m with last := m }) hEq
        have hhp : HasP s { turnK s k m with last := m } os := by
          rw [← hEq]
          intro i hi hpi
          have hpi2 : (stAt (k.tab.set m { stAt k.tab m with start := true }) i).pend = true := hpi
          rw [stAt_set (by omega)] at hpi2
          by_cases e : m = i
          · subst e
            refine ⟨(HHP2.out m hm (by exact HP.out)).1, fun _ => (HHP2.out m hm (by exact HP.out)).2 (by exact HST.out)⟩
          · rw [if_neg e] at hpi2
            refine ⟨(HHP2.out i hi hpi2).1, fun hsi => (HHP2.out i hi hpi2).2 ?_⟩
            have hsi2 : (stAt (k.tab.set m { stAt k.tab m with start := true }) i).start = false := hsi
            rw [stAt_set (by omega), if_neg e] at hsi2
            exact hsi2
        have HS6 := Lib.hid hS6
        have HHP6 := Lib.hid hhp
        clear hS6 hhp hEq hS5 hK5 hK4b hLo hT5 hC5 hmod
        go_wp2_with (fail)
        exact bodyPost_end (v := .tuple #[]) (results_none Tryz.results41 _ _ _) rfl ⟨rfl, ev4, os, HS6.out, HHP6.out⟩

      | true =>
        have HST := Lib.hid hst
        have hX : stAt k.tab m = ⟨(stAt k.tab m).pend, true, (stAt k.tab m).mid, (stAt k.tab m).arr⟩ := by rw [← hst]
        rw [hX] at HSM
        unfold stV at HSM
        dsimp only at HSM
        clear hX hst
        go_wp2_with (fail)
        refine (HSM.out W2 (Ext.refl _)).mono ?_
        rintro e W3 ⟨rfl, hX3⟩
        have hc3 : ∀ w', Ext W3 w' → ∀ j, w'.cell? ⟨b.gk, j, none⟩ = #[.int .i64 s.reload, .slice A s.tasks.length c, .int .i64 k.t, .int .i64 k.ran, .pointer (some ⟨b.gp, 0, none⟩), .pointer (some ⟨b.gc, 0, none⟩), .pointer (some ⟨b.gt, 0, none⟩), .slice (some ⟨b.go, 0, none⟩) s.tasks.length s.tasks.length, ev][j]? := fun w' hx => hc2 w' (hX3.trans hx)
        have hc30 := hc3 W3 (Ext.refl _)
        have hfld := field_start (stAt k.tab m).pend true (stAt k.tab m).mid (stAt k.tab m).arr
        have hlm : k.last ≠ m := by
          have := HLK.out
          unfold Link at this
          have hrm := HRM.out
          split at this <;> omega
        have hlk2 : k.last = k.last := by first | rfl | (rw [← HPRE.out]; exact preK_last s k m)
        have hloo := HK2.out.loose m hm (by exact HST.out)
        have hhad := hloo.2 (by rw [hlk2]; exact hlm)
        have hK3 := (HK2.out.ext hX3).setLast m (fun i hi hsi hmi => HLs.out i hi (by exact hsi) hmi)
        have HK3 := Lib.hid hK3
        have HLM := Lib.hid hlm
        have HHAD := Lib.hid hhad
        have hhb : (owAt os m).had < 18446744073709551616 := by
          rw [hhad]
          exact HHB.out
        have how : owAt os m = os[m] := getD_at hrl _
        have hr1 := fun w' (hx : Ext W3 w') => (hK3.ext hx).row.at encOw_len (i := m) (j := 1) hrl (by decide)
        have hr2 := fun w' (hx : Ext W3 w') => (hK3.ext hx).row.at encOw_len (i := m) (j := 2) hrl (by decide)
        simp only [encOw, List.getElem?_cons_zero, List.getElem?_cons_succ] at hr1 hr2
        have hLost := fun w' (hx : Ext W3 w') => lost_cache b.gc m (owAt os m).had k.own w' (hK3.ext hx).cache (by omega) hhb
        rw [how] at hLost HHAD
        have hlb : lostO k.own m os[m].had < 18446744073709551616 := lostO_lt _ _ _ (by rw [← how]; exact hhb)
        have HLost := Lib.hid hLost
        have HOW := Lib.hid how
        clear hLost hhad hloo hK3 hlm hlk2 hc20 hc2 how hhb
        generalize hlo : lostO k.own m os[m].had = lo at *
        have HLO := Lib.hid hlo
        clear hlo
        go_upto_region 8 with (fail)
        refine wp_region_all (S := Ext W3) (by kernel_rfl) (by kernel_rfl) (Ext.refl W3).drew (fun K hK => ?_); (repeat (first | (apply hO_and; (· rfl); (· rfl); (· rfl); (· rfl); simp only [Act.put, List.setIfInBounds_toArray, List.set_cons_zero, List.set_cons_succ]) | (apply hO_or; (· rfl); (· rfl); (· rfl); (· rfl); simp only [Act.put, List.setIfInBounds_toArray, List.set_cons_zero, List.set_cons_succ]) | (apply hO_off; (· rfl); (· rfl); simp only [Act.put, List.setIfInBounds_toArray, List.set_cons_zero, List.set_cons_succ]) | (apply hO_val; (· intro w hS; go_simp; with_reducible rfl); (· rfl); simp only [Act.put, List.setIfInBounds_toArray, List.set_cons_zero, List.set_cons_succ]) | (apply hO_call; (· rfl); (· intro w hS; go_simp; exact ⟨rfl, rfl⟩); (· intro w hS; exact callX hS (HLost.out _ hS)); simp only [Act.put, List.setIfInBounds_toArray, List.set_cons_zero, List.set_cons_succ]) | (apply hO_if; (· rfl); (· rfl); (· intro hif w hS; go_simp; with_reducible rfl); simp only [Act.put, List.setIfInBounds_toArray, List.set_cons_zero, List.set_cons_succ]) | (apply hO_ifcall; (· rfl); (· rfl); (· intro hif w hS; go_simp; exact ⟨rfl, rfl⟩); (· intro hif w hS; exact callX hS (HLost.out _ hS)); simp only [Act.put, List.setIfInBounds_toArray, List.set_cons_zero, List.set_cons_succ]))); refine hO_nil ?_; refine hK _ ?_; clear hK K
        intro W4 hX4
        have hc4 := hc3 W4 hX4
        have hpop := popN_le 64 lo
        have hrel := hs.reload
        obtain ⟨v, hv⟩ : ∃ v, s.reload * (popN 64 lo : Int) = v := ⟨_, rfl⟩
        have h1v := mul_small hrel.1 hrel.2 hpop
        rw [hv] at h1v
        have hwr : wrap64 (s.reload * (popN 64 lo : Int)) = v := by
          rw [hv]
          unfold wrap64; omega
        have hwr2 : IntKind.i64.wrap (s.reload * (popN 64 lo : Int)) = v := by
          rw [hv, IntKind.wrap_i64]; omega
        have hcnt := fun w' => (count_any lo hlb w').mono (fun e w2 (h : e = .returned (.int .i64 (popN 64 lo)) ∧ w' = w2) => (⟨h.1, h.2 ▸ Ext.refl _⟩ : e = .returned (.int .i64 (popN 64 lo)) ∧ Ext w' w2))
        have HCnt := Lib.hid hcnt
        clear hcnt hpop
        have HV := Lib.hid hv
        clear hv
        go_upto_region 9 with (fail)
        refine wp_region_mixZ (T := [11]) (z := 11) (S := Ext W3) (W := W4) (fun _ _ h hx => h.trans hx) (by kernel_rfl) (by kernel_rfl) (by kernel_rfl) (Ext.refl W4).drew hX4 (fun _ _ h => h) (fun K hK => ?_)
        (repeat (first | (refine hX_skip ?_ ?_; (· rfl)) | (apply hX_and; (· rfl); (· rfl); (· rfl); (· rfl); (· rfl); simp only [Act.put, List.setIfInBounds_toArray, List.set_cons_zero, List.set_cons_succ]) | (apply hX_or; (· rfl); (· rfl); (· rfl); (· rfl); (· rfl); simp only [Act.put, List.setIfInBounds_toArray, List.set_cons_zero, List.set_cons_succ]) | (apply hX_off; (· rfl); (· rfl); (· rfl); simp only [Act.put, List.setIfInBounds_toArray, List.set_cons_zero, List.set_cons_succ]) | (apply hX_val; (· rfl); (· intro w hS; go_simp; with_reducible rfl); (· rfl); simp only [Act.put, List.setIfInBounds_toArray, List.set_cons_zero, List.set_cons_succ]) | (apply hX_call; (· rfl); (· rfl); (· intro w hS; go_simp; exact ⟨rfl, rfl⟩); (· intro w hS; fail); simp only [Act.put, List.setIfInBounds_toArray, List.set_cons_zero, List.set_cons_succ]) | (apply hX_if; (· rfl); (· rfl); (· rfl); (· intro hif w hS; go_simp; with_reducible rfl); simp only [Act.put, List.setIfInBounds_toArray, List.set_cons_zero, List.set_cons_succ]) | (apply hX_ifcall; (· rfl); (· rfl); (· rfl); (· intro hif w hS; go_simp; exact ⟨rfl, rfl⟩); (· intro hif w hS; fail); simp only [Act.put, List.setIfInBounds_toArray, List.set_cons_zero, List.set_cons_succ])))
        apply hX_call
        · rfl
        · rfl
        · intro w hS; go_simp; exact ⟨rfl, rfl⟩
        · intro w hS; exact HCnt.out w
        simp only [Act.put, List.setIfInBounds_toArray, List.set_cons_zero, List.set_cons_succ]
        (repeat (first | (refine hX_skip ?_ ?_; (· rfl)) | (apply hX_and; (· rfl); (· rfl); (· rfl); (· rfl); (· rfl); simp only [Act.put, List.setIfInBounds_toArray, List.set_cons_zero, List.set_cons_succ]) | (apply hX_or; (· rfl); (· rfl); (· rfl); (· rfl); (· rfl); simp only [Act.put, List.setIfInBounds_toArray, List.set_cons_zero, List.set_cons_succ]) | (apply hX_off; (· rfl); (· rfl); (· rfl); simp only [Act.put, List.setIfInBounds_toArray, List.set_cons_zero, List.set_cons_succ]) | (apply hX_val; (· rfl); (· intro w hS; go_simp; with_reducible rfl); (· rfl); simp only [Act.put, List.setIfInBounds_toArray, List.set_cons_zero, List.set_cons_succ]) | (apply hX_call; (· rfl); (· rfl); (· intro w hS; go_simp; exact ⟨rfl, rfl⟩); (· intro w hS; fail); simp only [Act.put, List.setIfInBounds_toArray, List.set_cons_zero, List.set_cons_succ]) | (apply hX_if; (· rfl); (· rfl); (· rfl); (· intro hif w hS; go_simp; with_reducible rfl); simp only [Act.put, List.setIfInBounds_toArray, List.set_cons_zero, List.set_cons_succ]) | (apply hX_ifcall; (· rfl); (· rfl); (· rfl); (· intro hif w hS; go_simp; exact ⟨rfl, rfl⟩); (· intro hif w hS; fail); simp only [Act.put, List.setIfInBounds_toArray, List.set_cons_zero, List.set_cons_succ]))); refine hX_nil ?_
        refine hK _ ?_
        clear hK K
        refine wpZ_last (by kernel_rfl) rfl (by simp [Region.wanted, yielded]) ?_
        intro W5 hX5 K hK
        have hE5 := hX4.trans hX5
        have hK5 := HK3.out.ext hE5
        have hf := fun j => hK5.row.free j
        have hr25 := hr2 W5 hE5
        have hput := hK5.row.set encOw_len (i := m) (j := 2) (u := .int .i64 v) (x' := { os[m] with load := v }) (by decide) (fun _ => rfl)
        have hchg := (Chg.refl (fun q => q = b.go) W5).set (g := b.go) (i := m * 3 + 2) (.inl rfl) (.int .i64 v)
        have HPut := Lib.hid hput
        have HChg := Lib.hid hchg
        clear hput hchg hK5
        go_simp
        refine hK _ _ ?_
        clear hK K
        have hpp : ∀ i, (owAt (os.set m { os[m] with load := v }) i).p = (owAt os i).p := fun i => by
          rw [owAt_set hrl]
          by_cases e : m = i
          · subst e; rw [if_pos rfl, HOW.out]
          · rw [if_neg e]
        have hK6 := (HK3.out.ext hE5).setRow (had := k.had) (load := k.load.set m v) HChg.out HPut.out (by rw [List.length_set]) hpp (fun i hi hsi => by
          rw [owAt_set hrl, getD_set (by omega)]
          by_cases e : m = i
          · subst e
            rw [if_pos rfl, if_pos rfl]
            exact ⟨rfl, fun hmi => absurd rfl hmi⟩
          · rw [if_neg e, if_neg e]
            exact HK3.out.loose i hi hsi)
        have hS6 : Stp b B s W2 ev os _ _ ev (os.set m { os[m] with load := v }) := ⟨hK6, ((Chg.of_ext (hX3.trans hE5)).trans HChg.out).to (fun q _ hq => .inr (.inr (.inr (.inl hq)))), fun q hq => by
          rcases hq with h | h | h | h | h | h | ⟨i, h⟩
          · exact .inl (.inl h)
          · exact .inl (.inr (.inl h))
          · exact .inl (.inr (.inr (.inl h)))
          · exact .inl (.inr (.inr (.inr (.inl h))))
          · exact .inl (.inr (.inr (.inr (.inr (.inl h)))))
          · exact .inl (.inr (.inr (.inr (.inr (.inr (.inl h))))))
          · rw [hpp] at h
            exact .inl (.inr (.inr (.inr (.inr (.inr (.inr ⟨i, h⟩))))))⟩
        have hrow6 : ∀ w', Ext (W5.setCell ⟨b.go, m * 3 + 2, none⟩ (.int .i64 v)) w' → w'.cell? ⟨b.go, m * 3 + 2, none⟩ = some (.int .i64 v) := fun w' h => by
          rw [(hK6.ext h).row.at encOw_len (i := m) (j := 2) (by rw [List.length_set]; exact hrl) (by decide), List.getElem_set_self]
          rfl
        generalize hos : os.set m { os[m] with load := v } = os6 at *
        have HS6 := Lib.hid hS6
        have HPP := Lib.hid hpp
        have HOS := Lib.hid hos
        clear hS6 hK6 hpp hos hf hr25 hr1 hr2
        generalize World.setCell _ _ _ = W6 at HS6 HPut HChg hrow6 ⊢
        refine wpZ_done (by kernel_rfl) (fun W7 hX7 => ?_) _
        have hr7 := hrow6 W7 hX7
        have hK7 := HS6.out.at'.ext hX7
        have hbox7 := hK7.box
        unfold kcs at hbox7
        rw [hvt] at hbox7
        dsimp only at hbox7
        have hc7 := hbox7.cell
        have hS7 := HS6.out.ext hX7
        have HK7 := Lib.hid hK7
        have HS7 := Lib.hid hS7
        clear hrow6 hbox7 hK7 hS7 hc4 hc30 hc3
        go_wp2_with (fail)
        refine (notes_any b B s _ ev os6 6 m v W7 HK7.out (by dsimp only; omega) (by have := HS7.out.chg.size; have := HS2.out.chg.size; omega)).mono ?_
        rintro e W8 ⟨rfl, ev8, hS8⟩
        have hK8 := hS8.at'
        have hbox8 := hK8.box
        unfold kcs at hbox8
        simp only [KS.tell] at hbox8
        have hc8 := hbox8.cell
        have hTot := (HS2.out.trans HS7.out).trans hS8
        have hTch := touch_cache b.gc m lo k.own W8 hK8.cache (hD W8 (hTot.same hL hlow)) (by omega) hlb
        have HTch := Lib.hid hTch
        have HTot := Lib.hid hTot
        have HK8 := Lib.hid hK8
        clear hTch hbox8 hS8 hK8 hTot hc7 hr7
        go_wp2_with (fail)
        refine HTch.out.mono ?_
        rintro e W9 ⟨rfl, hT9, hC9⟩
        have hK9 := HK8.out.setCache hC9 hT9
        have hEq : ({ (({ ({ k with last := (m : Int) } : KS) with had := k.had, load := k.load.set m v } : KS).tell 6 m v) with own := touchO k.own m lo } : KS) = { turnK s k m with last := m } := by
          have hpk : popN 64 lo = popK lo := rfl
          unfold turnK
          dsimp only
          rw [HPRE.out, if_neg (by rw [HST.out]; decide), if_pos HLM.out]
          rw [← HHAD.out, HLO.out, ← hpk, HV.out]
          rfl
        have hS9 : Stp b B s W8 ev8 os6 W9 _ ev8 os6 := ⟨hK9, hC9.to (fun q _ hq => .inr (.inr (.inl hq))), fun q hq => .inl hq⟩
        have hS10 := (HTot.out.trans hS9).state (k2 := { turnK s k m with last := m }) hEq
        have hhp : HasP s { turnK s k m with last := m } os6 := by
          rw [← hEq]
          intro i hi hpi
          have h2 := HHP2.out i hi hpi
          rw [HPP.out]
          refine ⟨h2.1, fun hsi => ?_⟩
          have hne : m ≠ i := by
            rintro rfl
            have hsi2 : (stAt k.tab m).start = false := hsi
            rw [HST.out] at hsi2; cases hsi2
          rw [← HOS.out, owAt_set hrl, if_neg hne]
          exact h2.2 hsi
        have HS10 := Lib.hid hS10
        have HHP10 := Lib.hid hhp
        clear hS10 hhp hEq hS9 hK9 hT9 hC9
        go_wp2_with (fail)
        exact bodyPost_end (v := .tuple #[]) (results_none Tryz.results41 _ _ _) rfl ⟨rfl, ev8, os6, HS10.out, HHP10.out⟩
    | true =>
      have h0 : 0 ≤ k.ran := by
        apply Int.not_lt.1
        intro hlt
        rw [if_neg (by omega)] at hxs
        cases hxs
      rw [if_pos h0] at hxs HSt
      obtain ⟨r, hrr⟩ := Int.eq_ofNat_of_zero_le h0
      rw [hrr] at hxs HSt hc hne hne2 hne3 hr2 hrm
      rw [Int.toNat_natCast] at hxs HSt
      have hlast : k.last = r := by
        have := HLK.out
        unfold Link at this
        rw [hrr, if_pos ⟨by omega, by rw [Int.toNat_natCast]; exact hxs⟩] at this
        exact this
      have hrn : r < s.tasks.length := by omega
      have hrm2 : r ≠ m := by omega
      have hSX : stAt k.tab r = ⟨(stAt k.tab r).pend, true, (stAt k.tab r).mid, (stAt k.tab r).arr⟩ := by rw [← hxs]
      rw [hSX] at HSt
      unfold stV at HSt
      dsimp only at HSt
      have hfld0 := field_start (stAt k.tab r).pend true (stAt k.tab r).mid (stAt k.tab r).arr
      have HXS := Lib.hid hxs
      have HLAST := Lib.hid hlast
      have HRR := Lib.hid hrr
      clear hrm hlast hSX hxs h0 hrr
      go_enter Tryz.func41, Tryz.ntmps41
      go_upto_region 0 with (fail)
      refine wp_region_all (S := Ext w) (by kernel_rfl) (by kernel_rfl) (Ext.refl w).drew (fun K hK => ?_); (repeat (first | (apply hO_and (p := false) (q := true); (· rfl); (· rfl); (· rfl); (· rfl); simp only [Act.put, List.setIfInBounds_toArray, List.set_cons_zero, List.set_cons_succ]) | (apply hO_or (p := true) (q := true); (· rfl); (· rfl); (· rfl); (· rfl); simp only [Act.put, List.setIfInBounds_toArray, List.set_cons_zero, List.set_cons_succ]) | (apply hO_and; (· rfl); (· rfl); (· rfl); (· rfl); simp only [Act.put, List.setIfInBounds_toArray, List.set_cons_zero, List.set_cons_succ]) | (apply hO_or; (· rfl); (· rfl); (· rfl); (· rfl); simp only [Act.put, List.setIfInBounds_toArray, List.set_cons_zero, List.set_cons_succ]) | (apply hO_off; (· rfl); (· rfl); simp only [Act.put, List.setIfInBounds_toArray, List.set_cons_zero, List.set_cons_succ]) | (apply hO_un; (· rfl); (· rfl); simp only [Act.put, List.setIfInBounds_toArray, List.set_cons_zero, List.set_cons_succ]) | (apply hO_val; (· intro w hS; go_simp; with_reducible rfl); (· rfl); simp only [Act.put, List.setIfInBounds_toArray, List.set_cons_zero, List.set_cons_succ]) | (apply hO_call; (· rfl); (· intro w hS; go_simp; exact ⟨rfl, rfl⟩); (· intro w hS; exact callE hS (HSt.out _ hS)); simp only [Act.put, List.setIfInBounds_toArray, List.set_cons_zero, List.set_cons_succ]) | (apply hO_if; (· rfl); (· rfl); (· intro hif w hS; go_simp; with_reducible rfl); simp only [Act.put, List.setIfInBounds_toArray, List.set_cons_zero, List.set_cons_succ]) | (apply hO_ifcall; (· rfl); (· rfl); (· intro hif w hS; go_simp; exact ⟨rfl, rfl⟩); (· intro hif w hS; exact callE hS (HSt.out _ hS)); simp only [Act.put, List.setIfInBounds_toArray, List.set_cons_zero, List.set_cons_succ]))); refine hO_nil ?_; refine hK _ ?_; clear hK K
      intro W1 hX1
      have hc1 := hc W1 hX1
      go_wp2_with (fail)
      refine (notes_any b B s k ev os 5 r 0 W1 (HK.out.ext hX1) (by omega) (by have := hX1.size; omega)).mono ?_
      rintro e W4 ⟨rfl, ev2, hS4⟩
      have hK4 := hS4.at'
      have hS4' := ((Stp.refl HK.out).ext hX1).trans hS4
      have hbox4 := hK4.box
      unfold kcs at hbox4
      rw [hvt] at hbox4
      simp only [KS.tell] at hbox4
      rw [HRR.out] at hbox4
      have hT4 := hK4.tks
      rw [hvt] at hT4
      obtain ⟨bt, ot, rr, rfl, hat⟩ := hT4.at hrn
      have hcu := hat.under.2.2.2.2.2.2.2.2
      have hc4 : ∀ w', Ext W4 w' → ∀ j, w'.cell? ⟨b.gk, j, none⟩ = #[.int .i64 s.reload, .slice (some ⟨bt, ot, none⟩) s.tasks.length c, .int .i64 k.t, .int .i64 (r : Int), .pointer (some ⟨b.gp, 0, none⟩), .pointer (some ⟨b.gc, 0, none⟩), .pointer (some ⟨b.gt, 0, none⟩), .slice (some ⟨b.go, 0, none⟩) s.tasks.length s.tasks.length, ev2][j]? := fun w' hx => (hbox4.ext hx).cell
      have hHd := fun w' (hx : Ext W4 w') => held_cache b.gc r k.own w' (hK4.ext hx).cache (by omega)
      have hand := and_ucb (s.tasks[r].ucb) (heldP k.own r 64) (by rw [← tk_at s hrn]; exact (hu r hrn).1) (by rw [← tk_at s hrn]; exact (hs.bits r hrn).1) (heldP_lt _ _ 64)
      have HHd := Lib.hid hHd
      have HS4 := Lib.hid hS4'
      have HK4 := Lib.hid hK4
      obtain ⟨hd, hhd⟩ : ∃ hd, heldP k.own r 64 &&& (s.tasks[r].ucb).toNat = hd := ⟨_, rfl⟩
      rw [hhd] at hand
      have HHDV := Lib.hid hhd
      clear hHd hS4 hS4' hK4 hbox4 hT4 hat hhd hc1 hc hfld0
      go_upto_region 2 with (fail)
      refine wp_region_mixZ (T := [32]) (z := 32) (S := Ext W4) (W := W4) (Ext.mono W4) (by kernel_rfl) (by kernel_rfl) (by kernel_rfl) (Ext.refl W4).drew (Ext.refl W4) (fun _ _ h => h) (fun K hK => ?_)
      (repeat (first | (refine hX_skip ?_ ?_; (· rfl)) | (apply hX_and; (· rfl); (· rfl); (· rfl); (· rfl); (· rfl); simp only [Act.put, List.setIfInBounds_toArray, List.set_cons_zero, List.set_cons_succ]) | (apply hX_or; (· rfl); (· rfl); (· rfl); (· rfl); (· rfl); simp only [Act.put, List.setIfInBounds_toArray, List.set_cons_zero, List.set_cons_succ]) | (apply hX_off; (· rfl); (· rfl); (· rfl); simp only [Act.put, List.setIfInBounds_toArray, List.set_cons_zero, List.set_cons_succ]) | (apply hX_val; (· rfl); (· intro w hS; go_simp; with_reducible rfl); (· rfl); simp only [Act.put, List.setIfInBounds_toArray, List.set_cons_zero, List.set_cons_succ]) | (apply hX_call; (· rfl); (· rfl); (· intro w hS; go_simp; exact ⟨rfl, rfl⟩); (· intro w hS; exact callXX (HHd.out _ hS)); simp only [Act.put, List.setIfInBounds_toArray, List.set_cons_zero, List.set_cons_succ]) | (apply hX_if; (· rfl); (· rfl); (· rfl); (· intro hif w hS; go_simp; with_reducible rfl); simp only [Act.put, List.setIfInBounds_toArray, List.set_cons_zero, List.set_cons_succ]) | (apply hX_ifcall; (· rfl); (· rfl); (· rfl); (· intro hif w hS; go_simp; exact ⟨rfl, rfl⟩); (· intro hif w hS; exact callXX (HHd.out _ hS)); simp only [Act.put, List.setIfInBounds_toArray, List.set_cons_zero, List.set_cons_succ]))); refine hX_nil ?_
      refine hK _ ?_
      clear hK K
      refine wpZ_last (by kernel_rfl) rfl (by simp [Region.wanted, yielded]) ?_
      intro W5 hX5 K hK
      have hK5 := HK4.out.ext hX5
      have hrlr : r < os.length := by rw [hK5.rl]; exact hrn
      have hf := fun j => hK5.row.free j
      have hr1 := hK5.row.at encOw_len (i := r) (j := 1) hrlr (by decide)
      simp only [encOw, List.getElem?_cons_zero, List.getElem?_cons_succ] at hr1
      have hput := hK5.row.set encOw_len (i := r) (j := 1) (u := .int .u64 hd) (x' := { os[r] with had := hd }) (by decide) (fun _ => rfl)
      have hchg := (Chg.refl (fun q => q = b.go) W5).set (g := b.go) (i := r * 3 + 1) (.inl rfl) (.int .u64 hd)
      have HPut := Lib.hid hput
      have HChg := Lib.hid hchg
      clear hput hchg hK5
      go_simp
      refine hK _ _ ?_
      clear hK K
      have how : owAt os r = os[r] := getD_at hrlr _
      have hpp : ∀ i, (owAt (os.set r { os[r] with had := hd }) i).p = (owAt os i).p ∧ (owAt (os.set r { os[r] with had := hd }) i).load = (owAt os i).load := fun i => by
        rw [owAt_set hrlr]
        by_cases e : r = i
        · subst e; rw [if_pos rfl, how]; exact ⟨rfl, rfl⟩
        · rw [if_neg e]; exact ⟨rfl, rfl⟩
      have hhl := HLI.out.lh
      have hLs : ∀ i, i < s.tasks.length → (stAt k.tab i).start = true → (m : Int) ≠ i → (owAt (os.set r { os[r] with had := hd }) i).had = (k.had.set r hd).getD i 0 := fun i hi hsi hmi => by
        rw [owAt_set hrlr, getD_set (by omega)]
        by_cases e : r = i
        · rw [if_pos e, if_pos e]
        · rw [if_neg e, if_neg e]
          exact (HK.out.loose i hi hsi).2 (by rw [HLAST.out]; omega)
      have hK6 := (HK4.out.ext hX5).setRow (had := k.had.set r hd) (load := k.load) HChg.out HPut.out (by rw [List.length_set]) (fun i => (hpp i).1) (fun i hi hsi => by
        refine ⟨by rw [(hpp i).2]; exact (HK.out.loose i hi hsi).1, fun hmi => ?_⟩
        rw [owAt_set hrlr, getD_set (by omega)]
        by_cases e : r = i
        · rw [if_pos e, if_pos e]
        · rw [if_neg e, if_neg e]
          exact (HK.out.loose i hi hsi).2 hmi)
      have hPK : ({ (k.tell 5 r 0) with had := k.had.set r hd, load := k.load } : KS) = preK s k m := by
        unfold preK
        have hx : k.had.set k.last.toNat (heldO k.own k.last &&& (s.tk k.last.toNat).ucb.toNat) = k.had.set r hd := by rw [HLAST.out, Int.toNat_natCast, tk_at s hrn, ← heldP_all, HHDV.out]
        rw [if_pos ⟨by rw [HLAST.out]; omega, by rw [HLAST.out]; omega⟩, hx, ← HLAST.out]
        rfl
      have hS6 : Stp b B s W4 ev2 os _ (preK s k m) ev2 (os.set r { os[r] with had := hd }) := ⟨by rw [← hPK]; exact hK6, ((Chg.of_ext hX5).trans HChg.out).to (fun q _ hq => .inr (.inr (.inr (.inl hq)))), fun q hq => by
        rcases hq with h | h | h | h | h | h | ⟨i, h⟩
        · exact .inl (.inl h)
        · exact .inl (.inr (.inl h))
        · exact .inl (.inr (.inr (.inl h)))
        · exact .inl (.inr (.inr (.inr (.inl h))))
        · exact .inl (.inr (.inr (.inr (.inr (.inl h)))))
        · exact .inl (.inr (.inr (.inr (.inr (.inr (.inl h))))))
        · rw [(hpp i).1] at h
          exact .inl (.inr (.inr (.inr (.inr (.inr (.inr ⟨i, h⟩))))))⟩
      have hS7 := HS4.out.trans hS6
      have e1 : (preK s k m).tab = k.tab := by rw [← hPK]; rfl
      have e2 : (preK s k m).t = k.t := by rw [← hPK]; rfl
      have e3 : (preK s k m).ran = r := by rw [← hPK]; exact HRR.out
      have e4 : (preK s k m).evs.length ≤ 201 := by rw [← hPK]; show (k.evs ++ [_]).length ≤ 201; rw [List.length_append, List.length_singleton]; omega
      have e5 : (preK s k m).had = k.had.set r hd := by rw [← hPK]
      have hhp : HasP s (preK s k m) (os.set r { os[r] with had := hd }) := fun i hi hpi => by
        rw [e1] at hpi
        have h2 := HHP.out i hi hpi
        rw [(hpp i).1, (hpp i).2, e1]
        exact h2
      have hhb0 : (preK s k m).had.getD m 0 < 18446744073709551616 := by
        rw [e5, getD_set (by omega), if_neg hrm2]
        exact had_lt hs HLI.out hm
      rw [← e5] at hLs
      have hlk3 : (preK s k m).last = k.last := preK_last s k m
      have hlen3 := preK_load s k m HLI.out.ll
      have hhl3 := preK_had s k m HLI.out.lh
      have HEQK := Lib.hid (rfl : preK s k m = preK s k m)
      generalize hk2 : preK s k m = k2 at hS7 e1 e2 e3 e4 e5 hhp hhb0 hLs hlk3 hlen3 hhl3
      generalize hos2 : os.set r { os[r] with had := hd } = os2 at hS7 hhp hLs
      have HHB := Lib.hid hhb0
      have HLs := Lib.hid hLs
      have HPRE := Lib.hid hk2
      have HS6 := Lib.hid hS7
      have HHP2 := Lib.hid hhp
      clear hS6 hPK hK6 hLs hpp how hf hr1 hS7 hhp hhb0 hk2 hos2 hcu hand hc4 e5 HPut HChg hhl
      generalize World.setCell _ _ _ = W6 at HS6 ⊢
      refine wpZ_done (by kernel_rfl) (fun W2 hX2 => ?_) _
      have HS2 := Lib.hid (HS6.out.ext hX2)
      have HK2 := Lib.hid (HS6.out.at'.ext hX2)
      clear HS6 hX2 hX5
      have hbox2 := HK2.out.box
      unfold kcs at hbox2
      rw [hvt, e2, e3] at hbox2
      have hc2 : ∀ w', Ext W2 w' → ∀ j, w'.cell? ⟨b.gk, j, none⟩ = #[.int .i64 s.reload, .slice (some ⟨bt, ot, none⟩) s.tasks.length c, .int .i64 k.t, .int .i64 (r : Int), .pointer (some ⟨b.gp, 0, none⟩), .pointer (some ⟨b.gc, 0, none⟩), .pointer (some ⟨b.gt, 0, none⟩), .slice (some ⟨b.go, 0, none⟩) s.tasks.length s.tasks.length, ev2][j]? := fun w' hx => (hbox2.ext hx).cell
      have hc20 := hc2 W2 (Ext.refl _)
      have hsm := fun w' (hx : Ext W2 w') => state_any b B s k2 ev2 os2 m w' (HK2.out.ext hx) (by rw [e1]; exact HLI.out.zero m hm)
      rw [e1] at hsm
      have HSM := Lib.hid hsm
      have hlt2 := HK2.out.tab.len
      have hkl : k2.tab.length = s.tasks.length := by rw [e1]; exact HLI.out.lt
      have hrl : m < os2.length := by rw [HK2.out.rl]; exact hm
      have hlen2 : k2.load.length = s.tasks.length := by exact hlen3
      have hhl2 : k2.had.length = s.tasks.length := by exact hhl3
      clear hsm hbox2
      cases hst : (stAt k.tab m).start with
      | false =>
        have HST := Lib.hid hst
        have hX : stAt k.tab m = ⟨(stAt k.tab m).pend, false, (stAt k.tab m).mid, (stAt k.tab m).arr⟩ := by rw [← hst]
        rw [hX] at HSM
        unfold stV at HSM
        dsimp only at HSM
        clear hX hst
        go_wp2_with (fail)
        refine (HSM.out W2 (Ext.refl _)).mono ?_
        rintro e W3 ⟨rfl, hX3⟩
        have hfld := field_start (stAt k.tab m).pend false (stAt k.tab m).mid (stAt k.tab m).arr
        go_wp2_with (fail)
        refine (notes_any b B s k2 ev2 os2 4 m 0 W3 (HK2.out.ext hX3) (by omega) (by have := hX3.size; have := HS2.out.chg.size; omega)).mono ?_
        rintro e W4 ⟨rfl, ev4, hS4⟩
        have hK4 := hS4.at'
        have hbox4 := hK4.box
        unfold kcs at hbox4
        simp only [KS.tell] at hbox4
        have hc4 := hbox4.cell
        have hBeg := begin_tab b.gt b.gs k2.tab m W4 hK4.tab (by omega)
        have HBeg := Lib.hid hBeg
        have HK4 := Lib.hid hK4
        have HS4 := Lib.hid hS4
        clear hBeg hbox4 hK4 hS4 hc2 hc20
        go_wp2_with (fail)
        refine HBeg.out.mono ?_
        rintro e W5 ⟨rfl, hT5, hC5⟩
        have hmod : modT k2.tab m (fun x => { x with start := true }) = k2.tab.set m { stAt k2.tab m with start := true } := modT_on _ (by rw [e1]; exact HP.out)
        rw [hmod] at hT5
        have hLo : ∀ i, i < s.tasks.length → (stAt k2.tab i).start = true → (owAt os2 i).load = (k2.load.set m 0).getD i 0 ∧ ((m : Int) ≠ i → (owAt os2 i).had = k2.had.getD i 0) := fun i hi hsi => by
          have hne : m ≠ i := by rintro rfl; rw [e1, HST.out] at hsi; cases hsi
          refine ⟨?_, fun hmi => HLs.out i hi (by rw [← e1]; exact hsi) hmi⟩
          rw [getD_set (by omega), if_neg hne]
          exact (HK2.out.loose i hi hsi).1
        have hK4b : KAt b B W4 s { (k2.tell 4 m 0) with last := m, load := k2.load.set m 0 } ev4 os2 := { HK4.out with loose := hLo }
        have hK5 := hK4b.setTab hC5 hT5 (fun i hi hsi => by
          dsimp only
          by_cases e : m = i
          · subst e
            refine ⟨?_, fun hmi => absurd rfl hmi⟩
            rw [getD_set (by omega), if_pos rfl]
            exact (HHP2.out m hm (by rw [e1]; exact HP.out)).2 (by rw [e1]; exact HST.out)
          · rw [stAt_set (by omega), if_neg e] at hsi
            exact hLo i hi hsi)
        have hEq : ({ ({ (k2.tell 4 m 0) with last := m, load := k2.load.set m 0 } : KS) with tab := k2.tab.set m { stAt k2.tab m with start := true } } : KS) = { turnK s k m with last := m } := by
          unfold turnK
          dsimp only
          rw [HPRE.out, if_pos HST.out, e1]
          rfl
        have hS5 : Stp b B s W4 ev4 os2 W5 _ ev4 os2 := ⟨hK5, hC5.to (fun q _ hq => .inr (.inl hq)), fun q hq => .inl hq⟩
        have hS6 := (((HS2.out.ext hX3).trans HS4.out).trans hS5).state (k2 := { turnK s k m with last := m }) hEq
        have hhp : HasP s { turnK s k m with last := m } os2 := by
          rw [← hEq]
          intro i hi hpi
          have hpi2 : (stAt (k2.tab.set m { stAt k2.tab m with start := true }) i).pend = true := hpi
          rw [stAt_set (by omega)] at hpi2
          by_cases e : m = i
          · subst e
            refine ⟨(HHP2.out m hm (by rw [e1]; exact HP.out)).1, fun _ => (HHP2.out m hm (by rw [e1]; exact HP.out)).2 (by rw [e1]; exact HST.out)⟩
          · rw [if_neg e] at hpi2
            refine ⟨(HHP2.out i hi hpi2).1, fun hsi => (HHP2.out i hi hpi2).2 ?_⟩
            have hsi2 : (stAt (k2.tab.set m { stAt k2.tab m with start := true }) i).start = false := hsi
            rw [stAt_set (by omega), if_neg e] at hsi2
            exact hsi2
        have HS6 := Lib.hid hS6
        have HHP6 := Lib.hid hhp
        clear hS6 hhp hEq hS5 hK5 hK4b hLo hT5 hC5 hmod
        go_wp2_with (fail)
        exact bodyPost_end (v := .tuple #[]) (results_none Tryz.results41 _ _ _) rfl ⟨rfl, ev4, os2, HS6.out, HHP6.out⟩

      | true =>
        have HST := Lib.hid hst
        have hX : stAt k.tab m = ⟨(stAt k.tab m).pend, true, (stAt k.tab m).mid, (stAt k.tab m).arr⟩ := by rw [← hst]
        rw [hX] at HSM
        unfold stV at HSM
        dsimp only at HSM
        clear hX hst
        go_wp2_with (fail)
        refine (HSM.out W2 (Ext.refl _)).mono ?_
        rintro e W3 ⟨rfl, hX3⟩
        have hc3 : ∀ w', Ext W3 w' → ∀ j, w'.cell? ⟨b.gk, j, none⟩ = #[.int .i64 s.reload, .slice (some ⟨bt, ot, none⟩) s.tasks.length c, .int .i64 k.t, .int .i64 (r : Int), .pointer (some ⟨b.gp, 0, none⟩), .pointer (some ⟨b.gc, 0, none⟩), .pointer (some ⟨b.gt, 0, none⟩), .slice (some ⟨b.go, 0, none⟩) s.tasks.length s.tasks.length, ev2][j]? := fun w' hx => hc2 w' (hX3.trans hx)
        have hc30 := hc3 W3 (Ext.refl _)
        have hfld := field_start (stAt k.tab m).pend true (stAt k.tab m).mid (stAt k.tab m).arr
        have hlm : k.last ≠ m := by
          have := HLK.out
          unfold Link at this
          have hrm := HRM.out
          rw [HRR.out] at this
          split at this <;> omega
        have hlk2 : k2.last = k.last := by first | rfl | (rw [← HPRE.out]; exact preK_last s k m)
        have hloo := HK2.out.loose m hm (by rw [e1]; exact HST.out)
        have hhad := hloo.2 (by rw [hlk2]; exact hlm)
        have hK3 := (HK2.out.ext hX3).setLast m (fun i hi hsi hmi => HLs.out i hi (by rw [← e1]; exact hsi) hmi)
        have HK3 := Lib.hid hK3
        have HLM := Lib.hid hlm
        have HHAD := Lib.hid hhad
        have hhb : (owAt os2 m).had < 18446744073709551616 := by
          rw [hhad]
          exact HHB.out
        have how : owAt os2 m = os2[m] := getD_at hrl _
        have hr1 := fun w' (hx : Ext W3 w') => (hK3.ext hx).row.at encOw_len (i := m) (j := 1) hrl (by decide)
        have hr2 := fun w' (hx : Ext W3 w') => (hK3.ext hx).row.at encOw_len (i := m) (j := 2) hrl (by decide)
        simp only [encOw, List.getElem?_cons_zero, List.getElem?_cons_succ] at hr1 hr2
        have hLost := fun w' (hx : Ext W3 w') => lost_cache b.gc m (owAt os2 m).had k2.own w' (hK3.ext hx).cache (by omega) hhb
        rw [how] at hLost HHAD
        have hlb : lostO k2.own m os2[m].had < 18446744073709551616 := lostO_lt _ _ _ (by rw [← how]; exact hhb)
        have HLost := Lib.hid hLost
        have HOW := Lib.hid how
        clear hLost hhad hloo hK3 hlm hlk2 hc20 hc2 how hhb
        generalize hlo : lostO k2.own m os2[m].had = lo at *
        have HLO := Lib.hid hlo
        clear hlo
        go_upto_region 8 with (fail)
        refine wp_region_all (S := Ext W3) (by kernel_rfl) (by kernel_rfl) (Ext.refl W3).drew (fun K hK => ?_); (repeat (first | (apply hO_and; (· rfl); (· rfl); (· rfl); (· rfl); simp only [Act.put, List.setIfInBounds_toArray, List.set_cons_zero, List.set_cons_succ]) | (apply hO_or; (· rfl); (· rfl); (· rfl); (· rfl); simp only [Act.put, List.setIfInBounds_toArray, List.set_cons_zero, List.set_cons_succ]) | (apply hO_off; (· rfl); (· rfl); simp only [Act.put, List.setIfInBounds_toArray, List.set_cons_zero, List.set_cons_succ]) | (apply hO_val; (· intro w hS; go_simp; with_reducible rfl); (· rfl); simp only [Act.put, List.setIfInBounds_toArray, List.set_cons_zero, List.set_cons_succ]) | (apply hO_call; (· rfl); (· intro w hS; go_simp; exact ⟨rfl, rfl⟩); (· intro w hS; exact callX hS (HLost.out _ hS)); simp only [Act.put, List.setIfInBounds_toArray, List.set_cons_zero, List.set_cons_succ]) | (apply hO_if; (· rfl); (· rfl); (· intro hif w hS; go_simp; with_reducible rfl); simp only [Act.put, List.setIfInBounds_toArray, List.set_cons_zero, List.set_cons_succ]) | (apply hO_ifcall; (· rfl); (· rfl); (· intro hif w hS; go_simp; exact ⟨rfl, rfl⟩); (· intro hif w hS; exact callX hS (HLost.out _ hS)); simp only [Act.put, List.setIfInBounds_toArray, List.set_cons_zero, List.set_cons_succ]))); refine hO_nil ?_; refine hK _ ?_; clear hK K
        intro W4 hX4
        have hc4 := hc3 W4 hX4
        have hpop := popN_le 64 lo
        have hrel := hs.reload
        obtain ⟨v, hv⟩ : ∃ v, s.reload * (popN 64 lo : Int) = v := ⟨_, rfl⟩
        have h1v := mul_small hrel.1 hrel.2 hpop
        rw [hv] at h1v
        have hwr : wrap64 (s.reload * (popN 64 lo : Int)) = v := by
          rw [hv]
          unfold wrap64; omega
        have hwr2 : IntKind.i64.wrap (s.reload * (popN 64 lo : Int)) = v := by
          rw [hv, IntKind.wrap_i64]; omega
        have hcnt := fun w' => (count_any lo hlb w').mono (fun e w2 (h : e = .returned (.int .i64 (popN 64 lo)) ∧ w' = w2) => (⟨h.1, h.2 ▸ Ext.refl _⟩ : e = .returned (.int .i64 (popN 64 lo)) ∧ Ext w' w2))
        have HCnt := Lib.hid hcnt
        clear hcnt hpop
        have HV := Lib.hid hv
        clear hv
        go_upto_region 9 with (fail)
        refine wp_region_mixZ (T := [11]) (z := 11) (S := Ext W3) (W := W4) (fun _ _ h hx => h.trans hx) (by kernel_rfl) (by kernel_rfl) (by kernel_rfl) (Ext.refl W4).drew hX4 (fun _ _ h => h) (fun K hK => ?_)
        (repeat (first | (refine hX_skip ?_ ?_; (· rfl)) | (apply hX_and; (· rfl); (· rfl); (· rfl); (· rfl); (· rfl); simp only [Act.put, List.setIfInBounds_toArray, List.set_cons_zero, List.set_cons_succ]) | (apply hX_or; (· rfl); (· rfl); (· rfl); (· rfl); (· rfl); simp only [Act.put, List.setIfInBounds_toArray, List.set_cons_zero, List.set_cons_succ]) | (apply hX_off; (· rfl); (· rfl); (· rfl); simp only [Act.put, List.setIfInBounds_toArray, List.set_cons_zero, List.set_cons_succ]) | (apply hX_val; (· rfl); (· intro w hS; go_simp; with_reducible rfl); (· rfl); simp only [Act.put, List.setIfInBounds_toArray, List.set_cons_zero, List.set_cons_succ]) | (apply hX_call; (· rfl); (· rfl); (· intro w hS; go_simp; exact ⟨rfl, rfl⟩); (· intro w hS; fail); simp only [Act.put, List.setIfInBounds_toArray, List.set_cons_zero, List.set_cons_succ]) | (apply hX_if; (· rfl); (· rfl); (· rfl); (· intro hif w hS; go_simp; with_reducible rfl); simp only [Act.put, List.setIfInBounds_toArray, List.set_cons_zero, List.set_cons_succ]) | (apply hX_ifcall; (· rfl); (· rfl); (· rfl); (· intro hif w hS; go_simp; exact ⟨rfl, rfl⟩); (· intro hif w hS; fail); simp only [Act.put, List.setIfInBounds_toArray, List.set_cons_zero, List.set_cons_succ])))
        apply hX_call
        · rfl
        · rfl
        · intro w hS; go_simp; exact ⟨rfl, rfl⟩
        · intro w hS; exact HCnt.out w
        simp only [Act.put, List.setIfInBounds_toArray, List.set_cons_zero, List.set_cons_succ]
        (repeat (first | (refine hX_skip ?_ ?_; (· rfl)) | (apply hX_and; (· rfl); (· rfl); (· rfl); (· rfl); (· rfl); simp only [Act.put, List.setIfInBounds_toArray, List.set_cons_zero, List.set_cons_succ]) | (apply hX_or; (· rfl); (· rfl); (· rfl); (· rfl); (· rfl); simp only [Act.put, List.setIfInBounds_toArray, List.set_cons_zero, List.set_cons_succ]) | (apply hX_off; (· rfl); (· rfl); (· rfl); simp only [Act.put, List.setIfInBounds_toArray, List.set_cons_zero, List.set_cons_succ]) | (apply hX_val; (· rfl); (· intro w hS; go_simp; with_reducible rfl); (· rfl); simp only [Act.put, List.setIfInBounds_toArray, List.set_cons_zero, List.set_cons_succ]) | (apply hX_call; (· rfl); (· rfl); (· intro w hS; go_simp; exact ⟨rfl, rfl⟩); (· intro w hS; fail); simp only [Act.put, List.setIfInBounds_toArray, List.set_cons_zero, List.set_cons_succ]) | (apply hX_if; (· rfl); (· rfl); (· rfl); (· intro hif w hS; go_simp; with_reducible rfl); simp only [Act.put, List.setIfInBounds_toArray, List.set_cons_zero, List.set_cons_succ]) | (apply hX_ifcall; (· rfl); (· rfl); (· rfl); (· intro hif w hS; go_simp; exact ⟨rfl, rfl⟩); (· intro hif w hS; fail); simp only [Act.put, List.setIfInBounds_toArray, List.set_cons_zero, List.set_cons_succ]))); refine hX_nil ?_
        refine hK _ ?_
        clear hK K
        refine wpZ_last (by kernel_rfl) rfl (by simp [Region.wanted, yielded]) ?_
        intro W5 hX5 K hK
        have hE5 := hX4.trans hX5
        have hK5 := HK3.out.ext hE5
        have hf := fun j => hK5.row.free j
        have hr25 := hr2 W5 hE5
        have hput := hK5.row.set encOw_len (i := m) (j := 2) (u := .int .i64 v) (x' := { os2[m] with load := v }) (by decide) (fun _ => rfl)
        have hchg := (Chg.refl (fun q => q = b.go) W5).set (g := b.go) (i := m * 3 + 2) (.inl rfl) (.int .i64 v)
        have HPut := Lib.hid hput
        have HChg := Lib.hid hchg
        clear hput hchg hK5
        go_simp
        refine hK _ _ ?_
        clear hK K
        have hpp : ∀ i, (owAt (os2.set m { os2[m] with load := v }) i).p = (owAt os2 i).p := fun i => by
          rw [owAt_set hrl]
          by_cases e : m = i
          · subst e; rw [if_pos rfl, HOW.out]
          · rw [if_neg e]
        have hK6 := (HK3.out.ext hE5).setRow (had := k2.had) (load := k2.load.set m v) HChg.out HPut.out (by rw [List.length_set]) hpp (fun i hi hsi => by
          rw [owAt_set hrl, getD_set (by omega)]
          by_cases e : m = i
          · subst e
            rw [if_pos rfl, if_pos rfl]
            exact ⟨rfl, fun hmi => absurd rfl hmi⟩
          · rw [if_neg e, if_neg e]
            exact HK3.out.loose i hi hsi)
        have hS6 : Stp b B s W2 ev2 os2 _ _ ev2 (os2.set m { os2[m] with load := v }) := ⟨hK6, ((Chg.of_ext (hX3.trans hE5)).trans HChg.out).to (fun q _ hq => .inr (.inr (.inr (.inl hq)))), fun q hq => by
          rcases hq with h | h | h | h | h | h | ⟨i, h⟩
          · exact .inl (.inl h)
          · exact .inl (.inr (.inl h))
          · exact .inl (.inr (.inr (.inl h)))
          · exact .inl (.inr (.inr (.inr (.inl h))))
          · exact .inl (.inr (.inr (.inr (.inr (.inl h)))))
          · exact .inl (.inr (.inr (.inr (.inr (.inr (.inl h))))))
          · rw [hpp] at h
            exact .inl (.inr (.inr (.inr (.inr (.inr (.inr ⟨i, h⟩))))))⟩
        have hrow6 : ∀ w', Ext (W5.setCell ⟨b.go, m * 3 + 2, none⟩ (.int .i64 v)) w' → w'.cell? ⟨b.go, m * 3 + 2, none⟩ = some (.int .i64 v) := fun w' h => by
          rw [(hK6.ext h).row.at encOw_len (i := m) (j := 2) (by rw [List.length_set]; exact hrl) (by decide), List.getElem_set_self]
          rfl
        generalize hos : os2.set m { os2[m] with load := v } = os6 at *
        have HS6 := Lib.hid hS6
        have HPP := Lib.hid hpp
        have HOS := Lib.hid hos
        clear hS6 hK6 hpp hos hf hr25 hr1 hr2
        generalize World.setCell _ _ _ = W6 at HS6 HPut HChg hrow6 ⊢
        refine wpZ_done (by kernel_rfl) (fun W7 hX7 => ?_) _
        have hr7 := hrow6 W7 hX7
        have hK7 := HS6.out.at'.ext hX7
        have hbox7 := hK7.box
        unfold kcs at hbox7
        rw [hvt] at hbox7
        dsimp only at hbox7
        have hc7 := hbox7.cell
        have hS7 := HS6.out.ext hX7
        have HK7 := Lib.hid hK7
        have HS7 := Lib.hid hS7
        clear hrow6 hbox7 hK7 hS7 hc4 hc30 hc3
        go_wp2_with (fail)
        refine (notes_any b B s _ ev2 os6 6 m v W7 HK7.out (by dsimp only; omega) (by have := HS7.out.chg.size; have := HS2.out.chg.size; omega)).mono ?_
        rintro e W8 ⟨rfl, ev8, hS8⟩
        have hK8 := hS8.at'
        have hbox8 := hK8.box
        unfold kcs at hbox8
        simp only [KS.tell] at hbox8
        have hc8 := hbox8.cell
        have hTot := (HS2.out.trans HS7.out).trans hS8
        have hTch := touch_cache b.gc m lo k2.own W8 hK8.cache (hD W8 (hTot.same hL hlow)) (by omega) hlb
        have HTch := Lib.hid hTch
        have HTot := Lib.hid hTot
        have HK8 := Lib.hid hK8
        clear hTch hbox8 hS8 hK8 hTot hc7 hr7
        go_wp2_with (fail)
        refine HTch.out.mono ?_
        rintro e W9 ⟨rfl, hT9, hC9⟩
        have hK9 := HK8.out.setCache hC9 hT9
        have hEq : ({ (({ ({ k2 with last := (m : Int) } : KS) with had := k2.had, load := k2.load.set m v } : KS).tell 6 m v) with own := touchO k2.own m lo } : KS) = { turnK s k m with last := m } := by
          have hpk : popN 64 lo = popK lo := rfl
          unfold turnK
          dsimp only
          rw [HPRE.out, if_neg (by rw [HST.out]; decide), if_pos HLM.out]
          rw [← HHAD.out, HLO.out, ← hpk, HV.out]
          rfl
        have hS9 : Stp b B s W8 ev8 os6 W9 _ ev8 os6 := ⟨hK9, hC9.to (fun q _ hq => .inr (.inr (.inl hq))), fun q hq => .inl hq⟩
        have hS10 := (HTot.out.trans hS9).state (k2 := { turnK s k m with last := m }) hEq
        have hhp : HasP s { turnK s k m with last := m } os6 := by
          rw [← hEq]
          intro i hi hpi
          have h2 := HHP2.out i hi hpi
          rw [HPP.out]
          refine ⟨h2.1, fun hsi => ?_⟩
          have hne : m ≠ i := by
            rintro rfl
            have hsi2 : (stAt k2.tab m).start = false := hsi
            rw [e1, HST.out] at hsi2; cases hsi2
          rw [← HOS.out, owAt_set hrl, if_neg hne]
          exact h2.2 hsi
        have HS10 := Lib.hid hS10
        have HHP10 := Lib.hid hhp
        clear hS10 hhp hEq hS9 hK9 hT9 hC9
        go_wp2_with (fail)
        exact bodyPost_end (v := .tuple #[]) (results_none Tryz.results41 _ _ _) rfl ⟨rfl, ev8, os6, HS10.out, HHP10.out⟩
end Go.Proofs.YtniejidekflmiaaGreatDoor
