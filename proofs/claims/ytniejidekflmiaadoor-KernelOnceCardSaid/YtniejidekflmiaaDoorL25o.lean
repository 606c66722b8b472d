/- law 25: each job Starts once, ends once. -/
import Derived.Test.YtniejidekflmiaaDoorProg
import Derived.Test.YtniejidekflmiaaDoorBase
import Derived.Test.YtniejidekflmiaaDoorHeldX
import Derived.Test.YtniejidekflmiaaDoorHeldN
import Derived.Test.YtniejidekflmiaaDoorApp
import Derived.Test.YtniejidekflmiaaDoorExt0
import Derived.Test.YtniejidekflmiaaDoorChg
import Derived.Test.YtniejidekflmiaaDoorKM
import Derived.Test.YtniejidekflmiaaDoorKP1
import Derived.Test.YtniejidekflmiaaDoorKO
import Derived.Test.YtniejidekflmiaaDoorOpenI
import Derived.Test.YtniejidekflmiaaDoorKker
import Derived.Test.YtniejidekflmiaaDoorTskZ
import Derived.Test.YtniejidekflmiaaDoorTskA
import Derived.Test.YtniejidekflmiaaDoorSetO
import Derived.Test.YtniejidekflmiaaDoorKch
import Derived.Test.YtniejidekflmiaaDoorEvO
import Derived.Test.YtniejidekflmiaaDoorKrn
import Derived.Deep.Cut
import Derived.Lib.Hide
import Derived.OwnWalk
import Derived.BigQuiet
namespace Go.Proofs.YtniejidekflmiaaDoor
open Go.RowKit
attribute [local go_sem] setCell_twice ByteArray.toList_eq str_list Ext.alloc Ext.drew
set_option linter.unusedSimpArgs false
set_option linter.unusedVariables false
set_option maxRecDepth 100000
set_option maxHeartbeats 1600000
attribute [local irreducible] Calls


theorem once_step {L : List Ev} {n k : Nat} (hk : k < L.length) (hok : okEv n (evAt L k)) (hn : ∀ m i : Nat, i < n → onceL (L.take m) i ≠ -9) {i : Nat} (hi : i < n) (ht : (evAt L k).task = i) :
    onceL (L.take (k + 1)) i = onceS (onceL (L.take k) i) (evAt L k).kind ∧ onceS (onceL (L.take k) i) (evAt L k).kind ≠ -9 ∧ ∀ j : Nat, j ≠ i → onceL (L.take (k + 1)) j = onceL (L.take k) j := by
  have hs : ∀ j : Int, onceL (L.take (k + 1)) j = if (evAt L k).task = j then onceS (onceL (L.take k) j) (evAt L k).kind else onceL (L.take k) j := fun j => by
    rw [List.take_succ_eq_append_getElem hk, once_snoc, ← evAt_in hk]
  have h1 := hs i
  rw [if_pos ht] at h1
  refine ⟨h1, by rw [← h1]; exact hn _ _ hi, fun j hj => ?_⟩
  rw [hs, if_neg (by omega)]
def onceA (L : List Ev) (k : Nat) : List Int := (List.range 8).map fun (i : Nat) => onceL (L.take k) i
theorem onceA_len (L : List Ev) (j : Nat) : (onceA L j).length = 8 := by simp [onceA]
theorem onceA_at (L : List Ev) (j : Nat) {i : Nat} (hi : i < 8) : (onceA L j).getD i 0 = onceL (L.take j) i := by
  rw [getD_at (by rw [onceA_len]; exact hi)]
  simp [onceA]
theorem onceA_set {L : List Ev} {k n : Nat} (hk : k < L.length) (hn8 : n ≤ 8) (hok : okEv n (evAt L k)) (hn : ∀ m i : Nat, i < n → onceL (L.take m) i ≠ -9) {i : Nat} (hi : i < n) (ht : (evAt L k).task = i) : onceA L (k + 1) = (onceA L k).set i (onceS (onceL (L.take k) i) (evAt L k).kind) := by
  obtain ⟨h1, _, h3⟩ := once_step hk hok hn hi ht
  refine list8_ext (onceA_len _ _) (by rw [List.length_set]; exact onceA_len _ _) fun j hj => ?_
  rw [onceA_at L _ hj, getD_set (by rw [onceA_len]; omega), onceA_at L _ hj]
  by_cases e : i = j
  · subst e; rw [if_pos rfl, h1]
  · rw [if_neg e, h3 j (fun h => e h.symm)]
theorem set_same {l : List Int} {i : Nat} (h : i < l.length) : l.set i (l.getD i 0) = l := by
  rw [getD_at h]
  exact List.set_getElem_self h
theorem onceA_idle {L : List Ev} {k : Nat} (hk : k < L.length) (ht : (evAt L k).task < 0) : onceA L (k + 1) = onceA L k := by
  refine list8_ext (onceA_len _ _) (onceA_len _ _) fun j hj => ?_
  rw [onceA_at L _ hj, onceA_at L _ hj, List.take_succ_eq_append_getElem hk, once_snoc, ← evAt_in hk, if_neg (by omega)]

theorem kernelOnce_walk (v0 : Value) (s : TSet) (vl : Value) (l : List Inp) (w : World) (hv0 : ∃ u, v0 = setV s u ∧ Tasks w u s.tasks ∧ s.fit) (hl0 : SlR InpR 3 Any w vl l ∧ ∀ x ∈ l, x.ok) (hG : G25 w) :
    Calls Tryd.prog 8 #[v0, vl] w fun e w' => e = .returned (.bool true) ∧ Below w.heap.size w w' := by
  obtain ⟨u, rfl, hv, hf⟩ := hv0
  obtain ⟨hl, ho⟩ := hl0
  obtain ⟨A, c, rfl, hcc, hcm, hxx⟩ := id hv
  obtain ⟨Al, cl, rfl, hcl, hcm2⟩ := SlR.form hl
  clear hxx
  unfold maxLen at hcm hcm2
  have hX1 := (Ext.refl w).alloc (.cells #[.int .i64 s.reload, .slice A s.tasks.length c] 24)
  have hB1 := Blk.new w #[.int .i64 s.reload, .slice A s.tasks.length c] 24
  have hAll := fun w' (hx : Ext w w') => allR_any s (.slice A s.tasks.length c) w' (hv.ext hx) hf.good
  have hLong := fun w' (hx : Ext w w') => long_any (.slice Al l.length cl) l w' (SlR.ext hl fun _ _ _ h => h.ext hx)
  have hRun := fun w' (hx : Ext w w') (hb : allB s = true) (hlg : longB l = false) => runs25_any s (.slice A s.tasks.length c) (.slice Al l.length cl) l w' (hv.ext hx) hf.good (hG.ext hx).gok hb (kh_of hb hf) (SlR.ext hl fun _ _ _ h => h.ext hx) ho (by have := longB_no hlg; omega) (hG.ext hx).db
  have hKn := fun w' (hx : Ext w w') => known25_any w' (hG.ext hx)
  unfold setV at hAll hRun ⊢
  have HALL := Lib.hid hAll
  have HLONG := Lib.hid hLong
  have HRUN := Lib.hid hRun
  have HKN := Lib.hid hKn
  have HV := Lib.hid hv
  have HG := Lib.hid hG
  clear hAll hLong hRun hKn hv hl hG
  cases hd : decide (10 < (s.tasks.length : Int)) with
  | true =>
    go_enter Tryd.func8, Tryd.ntmps8
    go_wp2_with (fail)
    go_ret
    exact ⟨rfl, hX1.below⟩
  | false =>
    go_enter Tryd.func8, Tryd.ntmps8
    go_upto_region 1 with (fail)
    generalize hW : w.alloc _ = W1 at hX1 hB1 ⊢
    clear hW
    have hcB := hB1.under
    have hc1 := hB1.cell
    go_wp2_with (fail)
    refine (HALL.out W1 hX1).mono ?_
    rintro e W2 ⟨rfl, hb2⟩
    have hX12 : Ext W1 W2 := ⟨hb2⟩
    have hXW2 := hX1.trans hX12
    clear hb2 hc1
    cases hb : allB s with
    | false =>
      go_wp2_with (fail)
      go_ret
      exact ⟨rfl, hXW2.below⟩
    | true =>
      go_wp2_with (fail)
      refine (HLONG.out W2 hXW2).mono ?_
      rintro e W3 ⟨rfl, rfl⟩
      cases hlg : longB l with
      | true =>
        go_wp2_with (fail)
        go_ret
        exact ⟨rfl, hXW2.below⟩
      | false =>
        have hc2 := hcB W2 hX12
        have hrun := HRUN.out W2 hXW2 hb hlg
        have hk := kh_of hb hf
        have hev := allEv hk.kh l
        have hof := of_all hk.kh l
        have hl250 := longB_no hlg
        have hfew := runK_few hk.kh.len.2 l (initK s)
        have hfew2 : (eventsK s l).length ≤ 25000 := by
          unfold eventsK
          omega
        clear hfew
        generalize hE : eventsK s l = L at *
        have HRun := Lib.hid hrun
        have HEV := Lib.hid hev
        have HOF := Lib.hid hof
        have HB := Lib.hid hb
        clear hrun hev hof hlg hb HRUN HLONG hE
        go_wp2_with (fail)
        refine HRun.out.mono ?_
        rintro e W3 ⟨vo, rfl, hO, hX23⟩
        have hX13 := hX12.trans hX23
        have hXW3 := hX1.trans hX13
        obtain ⟨Ao, co, rfl, hco, hco2⟩ := OwnL.form hO
        unfold maxLen at hco2
        have HE := Lib.hid (OwnL.evs hO)
        have hc3 := hcB W3 hX13
        clear hO HRun hc2
        clear hc3
        go_wp2_with (fail)
        have hZ : Arr8 (W3.alloc (.cells #[.int .i64 0, .int .i64 0, .int .i64 0, .int .i64 0, .int .i64 0, .int .i64 0, .int .i64 0, .int .i64 0] 53)) 53 W3.heap.size (onceA L 0) := ⟨Blk.new _ _ _, rfl⟩
        have hX34 := (Ext.refl W3).alloc (.cells #[.int .i64 0, .int .i64 0, .int .i64 0, .int .i64 0, .int .i64 0, .int .i64 0, .int .i64 0, .int .i64 0] 53)
        have hn8 := hk.kh.len.2
        go_loopw [8] (fun i wr => ∃ (k : Nat), k ≤ L.length ∧ i = .int .i64 k ∧ Arr8 wr 53 W3.heap.size (onceA L k) ∧ Ext W3 wr) (fun i _ => L.length - (intOf i).toNat)
        case atStart => exact ⟨0, by omega, rfl, hZ, hX34⟩
        case round =>
          obtain ⟨k, hk2, rfl, hA, hX⟩ := hrel
          clear hZ hX34
          by_cases hlt : k < L.length
          · obtain ⟨bl, ol, rfl, hx⟩ := HE.out.at hlt
            have hok := HEV.out.ok (evAt L k) (by rw [evAt_in hlt]; exact List.getElem_mem hlt)
            have hnb : ∀ m i : Nat, i < s.tasks.length → onceL (L.take m) i ≠ -9 := fun m i hi => HEV.out.once i hi m
            have hset := fun (i : Nat) (hi : i < s.tasks.length) => onceA_set hlt hn8 hok hnb hi
            have hstp := fun (i : Nat) (hi : i < s.tasks.length) (ht : (evAt L k).task = i) => (once_step hlt hok hnb hi ht).2.1
            have hidl := onceA_idle hlt
            have hcr := hcB wr (hX13.trans hX)
            obtain ⟨x0, x1, x2, x3⟩ := hx wr hX
            have HSET := Lib.hid hset
            have HSTP := Lib.hid hstp
            have HIDL := Lib.hid hidl
            clear hx hnb hset hstp hidl x0 x3
            generalize evAt L k = p at *
            obtain ⟨p0, p1, p2, p3⟩ := p
            dsimp only at x1 x2 hok HSET HSTP HIDL
            rcases hok with ⟨rfl, rfl⟩ | ⟨hk19, hp0, hpn⟩
            · have HN := Lib.hid (HIDL.out (by omega))
              have HA1 := Lib.hid hA
              clear hA
              go_wp2_with (fail)
              exact ⟨⟨k + 1, hlt, rfl, by rw [HN.out]; exact HA1.out, hX⟩, by simp [intOf]; omega⟩
            · dsimp only at hk19 hp0 hpn
              obtain ⟨i, rfl⟩ := Int.eq_ofNat_of_zero_le hp0
              have hi : i < s.tasks.length := by omega
              have hs1 := HSET.out i hi rfl
              have hs2 := HSTP.out i hi rfl
              have hca := hA.at (show i < 8 by omega)
              have hfa := hA.box.free i
              rw [onceA_at L k (by omega)] at hca
              have hge : decide ((s.tasks.length : Int) ≤ i) = false := decide_eq_false (by omega)
              have hi8 : (i : Int) < 8 := by omega
              have HA1 := Lib.hid hA
              have HS1 := Lib.hid hs1
              clear hA hs1 HSET HSTP HIDL hp0 hpn
              generalize onceL (L.take k) i = a at *
              rw [onceS_of] at hs2
              have hfr : p1 = 1 ∨ p1 = 4 ∨ p1 = 5 ∨ p1 = 6 ∨ p1 = 8 ∨ p1 = 9 ∨ (p1 ≠ 1 ∧ p1 ≠ 4 ∧ p1 ≠ 5 ∧ p1 ≠ 6 ∧ p1 ≠ 8 ∧ p1 ≠ 9) := by omega
              rcases hfr with rfl | rfl | rfl | rfl | rfl | rfl | ⟨n1, n4, n5, n6, n8, n9⟩
              · have ha : a = 0 := by
                  by_cases h : a = 0
                  · exact h
                  · exact absurd (show (if a = 0 then (1 : Int) else -9) = -9 from if_neg h) hs2
                subst ha
                clear hs2 hk19
                go_wp2_with (fail)
                exact ⟨⟨k + 1, hlt, rfl, by rw [HS1.out]; exact HA1.out.set i 1, hX.set (Nat.le_refl _) _⟩, by simp [intOf]; omega⟩
              · have ha : a = 1 := by
                  by_cases h : a = 1
                  · exact h
                  · exact absurd (show (if a = 1 then (2 : Int) else -9) = -9 from if_neg h) hs2
                subst ha
                clear hs2 hk19
                go_wp2_with (fail)
                exact ⟨⟨k + 1, hlt, rfl, by rw [HS1.out]; exact HA1.out.set i 2, hX.set (Nat.le_refl _) _⟩, by simp [intOf]; omega⟩
              · have ha : a = 2 := by
                  by_cases h : a = 2
                  · exact h
                  · exact absurd (show (if a = 2 then (3 : Int) else -9) = -9 from if_neg h) hs2
                subst ha
                clear hs2 hk19
                go_wp2_with (fail)
                exact ⟨⟨k + 1, hlt, rfl, by rw [HS1.out]; exact HA1.out.set i 3, hX.set (Nat.le_refl _) _⟩, by simp [intOf]; omega⟩
              · have ha : a = 3 := by
                  by_cases h : a = 3
                  · exact h
                  · exact absurd (show (if a = 3 then (2 : Int) else -9) = -9 from if_neg h) hs2
                subst ha
                clear hs2 hk19
                go_wp2_with (fail)
                exact ⟨⟨k + 1, hlt, rfl, by rw [HS1.out]; exact HA1.out.set i 2, hX.set (Nat.le_refl _) _⟩, by simp [intOf]; omega⟩
              · have ha : a = 2 := by
                  by_cases h : a = 2
                  · exact h
                  · exact absurd (show (if a = 2 then (0 : Int) else -9) = -9 from if_neg h) hs2
                subst ha
                clear hs2 hk19
                go_wp2_with (fail)
                exact ⟨⟨k + 1, hlt, rfl, by rw [HS1.out]; exact HA1.out.set i 0, hX.set (Nat.le_refl _) _⟩, by simp [intOf]; omega⟩
              · have ha : a = 2 := by
                  by_cases h : a = 2
                  · exact h
                  · exact absurd (show (if a = 2 then (0 : Int) else -9) = -9 from if_neg h) hs2
                subst ha
                clear hs2 hk19
                go_wp2_with (fail)
                exact ⟨⟨k + 1, hlt, rfl, by rw [HS1.out]; exact HA1.out.set i 0, hX.set (Nat.le_refl _) _⟩, by simp [intOf]; omega⟩
              · have d1 : (p1 == 1) = false := by rw [beq_eq_false_iff_ne]; exact n1
                have d4 : (p1 == 4) = false := by rw [beq_eq_false_iff_ne]; exact n4
                have d5 : (p1 == 5) = false := by rw [beq_eq_false_iff_ne]; exact n5
                have d6 : (p1 == 6) = false := by rw [beq_eq_false_iff_ne]; exact n6
                have d8 : (p1 == 8) = false := by rw [beq_eq_false_iff_ne]; exact n8
                have d9 : (p1 == 9) = false := by rw [beq_eq_false_iff_ne]; exact n9
                have HN := Lib.hid (show onceA L (k + 1) = onceA L k by
                  rw [HS1.out]
                  have e : onceS a p1 = a := by unfold onceS; rw [if_neg n1, if_neg n4, if_neg n5, if_neg n6, if_neg (by omega)]
                  rw [e]
                  have e2 : a = (onceA L k).getD i 0 := (by have := HA1.out.at (show i < 8 by omega); rw [hca] at this; injection this with h; injection h)
                  rw [e2]
                  exact set_same (by rw [onceA_len]; omega))
                clear hs2 n1 n4 n5 n6 n8 n9 hk19
                go_wp2_with (fail)
                exact ⟨⟨k + 1, hlt, rfl, by rw [HN.out]; exact HA1.out, hX⟩, by simp [intOf]; omega⟩
          · have hke : k = L.length := by omega
            subst hke
            go_wp2_with (fail)
            refine (HKN.out wr (hXW3.trans hX)).mono ?_
            rintro e W5 ⟨rfl, hb5⟩
            go_wp2_with (fail)
            go_ret
            exact ⟨rfl, ((hXW3.trans hX).call hb5).below⟩
end Go.Proofs.YtniejidekflmiaaDoor
