/- law 25: who ran has, or had, a job; ticks go by one. -/
import Derived.Test.YtniejidekflmiaaDoorProg
import Derived.Test.YtniejidekflmiaaDoorBase
import Derived.Test.YtniejidekflmiaaDoorHeldX
import Derived.Test.YtniejidekflmiaaDoorHeldN
import Derived.Test.YtniejidekflmiaaDoorApp
import Derived.Test.YtniejidekflmiaaDoorExt0
import Derived.Test.YtniejidekflmiaaDoorChg
import Derived.Test.YtniejidekflmiaaDoorKM
import Derived.Test.YtniejidekflmiaaDoorKP1
import Derived.Test.YtniejidekflmiaaDoorKO
import Derived.Test.YtniejidekflmiaaDoorOpenI
import Derived.Test.YtniejidekflmiaaDoorKker
import Derived.Test.YtniejidekflmiaaDoorTskZ
import Derived.Test.YtniejidekflmiaaDoorTskA
import Derived.Test.YtniejidekflmiaaDoorSetO
import Derived.Test.YtniejidekflmiaaDoorKch
import Derived.Test.YtniejidekflmiaaDoorEvO
import Derived.Test.YtniejidekflmiaaDoorKrn
import Derived.Test.YtniejidekflmiaaDoorOfW
import Derived.Deep.Cut
import Derived.Lib.Hide
import Derived.OwnWalk
import Derived.BigQuiet
import Derived.Laws.OwnMore
import Derived.Laws.MakeOwn
namespace Go.Proofs.YtniejidekflmiaaDoor
open Go.RowKit
attribute [local go_sem] setCell_twice ByteArray.toList_eq str_list Ext.alloc Ext.drew
set_option linter.unusedSimpArgs false
set_option linter.unusedVariables false
set_option maxRecDepth 100000
set_option maxHeartbeats 1600000
attribute [local irreducible] Calls

theorem kernelStates_walk (v0 : Value) (s : TSet) (vl : Value) (l : List Inp) (w : World) (hv0 : ∃ u, v0 = setV s u ∧ Tasks w u s.tasks ∧ s.fit) (hl0 : SlR InpR 3 Any w vl l ∧ ∀ x ∈ l, x.ok) (hG : G25 w) :
    Calls Tryd.prog 11 #[v0, vl] w fun e w' => e = .returned (.bool true) ∧ Below w.heap.size w w' := by
  obtain ⟨u, rfl, hv, hf⟩ := hv0
  obtain ⟨hl, ho⟩ := hl0
  obtain ⟨A, c, rfl, hcc, hcm, hxx⟩ := id hv
  obtain ⟨Al, cl, rfl, hcl, hcm2⟩ := SlR.form hl
  clear hxx
  unfold maxLen at hcm hcm2
  have hX1 := (Ext.refl w).alloc (.cells #[.int .i64 s.reload, .slice A s.tasks.length c] 24)
  have hB1 := Blk.new w #[.int .i64 s.reload, .slice A s.tasks.length c] 24
  have hAll := fun w' (hx : Ext w w') => allR_any s (.slice A s.tasks.length c) w' (hv.ext hx) hf.good
  have hLong := fun w' (hx : Ext w w') => long_any (.slice Al l.length cl) l w' (SlR.ext hl fun _ _ _ h => h.ext hx)
  have hRun := fun w' (hx : Ext w w') (hb : allB s = true) (hlg : longB l = false) => runs25_any s (.slice A s.tasks.length c) (.slice Al l.length cl) l w' (hv.ext hx) hf.good (hG.ext hx).gok hb (kh_of hb hf) (SlR.ext hl fun _ _ _ h => h.ext hx) ho (by have := longB_no hlg; omega) (hG.ext hx).db
  have hKn := fun w' (hx : Ext w w') => known25_any w' (hG.ext hx)
  unfold setV at hAll hRun ⊢
  have HALL := Lib.hid hAll
  have HLONG := Lib.hid hLong
  have HRUN := Lib.hid hRun
  have HKN := Lib.hid hKn
  have HV := Lib.hid hv
  have HG := Lib.hid hG
  clear hAll hLong hRun hKn hv hl hG
  cases hd : decide (10 < (s.tasks.length : Int)) with
  | true =>
    go_enter Tryd.func11, Tryd.ntmps11
    go_wp2_with (fail)
    go_ret
    exact ⟨rfl, hX1.below⟩
  | false =>
    go_enter Tryd.func11, Tryd.ntmps11
    go_upto_region 1 with (fail)
    generalize hW : w.alloc _ = W1 at hX1 hB1 ⊢
    clear hW
    have hcB := hB1.under
    have hc1 := hB1.cell
    go_wp2_with (fail)
    refine (HALL.out W1 hX1).mono ?_
    rintro e W2 ⟨rfl, hb2⟩
    have hX12 : Ext W1 W2 := ⟨hb2⟩
    have hXW2 := hX1.trans hX12
    clear hb2 hc1
    cases hb : allB s with
    | false =>
      go_wp2_with (fail)
      go_ret
      exact ⟨rfl, hXW2.below⟩
    | true =>
      go_wp2_with (fail)
      refine (HLONG.out W2 hXW2).mono ?_
      rintro e W3 ⟨rfl, rfl⟩
      cases hlg : longB l with
      | true =>
        go_wp2_with (fail)
        go_ret
        exact ⟨rfl, hXW2.below⟩
      | false =>
        have hc2 := hcB W2 hX12
        have hrun := HRUN.out W2 hXW2 hb hlg
        have hk := kh_of hb hf
        have hev := allEv hk.kh l
        have hof := of_all hk.kh l
        have hl250 := longB_no hlg
        have hfew := runK_few hk.kh.len.2 l (initK s)
        have hfew2 : (eventsK s l).length ≤ 25000 := by
          unfold eventsK
          omega
        clear hfew
        generalize hE : eventsK s l = L at *
        have HRun := Lib.hid hrun
        have HEV := Lib.hid hev
        have HOF := Lib.hid hof
        have HB := Lib.hid hb
        clear hrun hev hof hlg hb HRUN HLONG hE
        go_wp2_with (fail)
        refine HRun.out.mono ?_
        rintro e W3 ⟨vo, rfl, hO, hX23⟩
        have hX13 := hX12.trans hX23
        have hXW3 := hX1.trans hX13
        obtain ⟨Ao, co, rfl, hco, hco2⟩ := OwnL.form hO
        unfold maxLen at hco2
        have HE := Lib.hid (OwnL.evs hO)
        have hc3 := hcB W3 hX13
        clear hO HRun hc2
        have hOf := of_any (.slice Ao L.length co) L l.length W3 (by omega) HE.out
        have HOf := Lib.hid hOf
        clear hOf hc3
        go_wp2_with (fail)
        refine HOf.out.mono ?_
        rintro e W4 ⟨vr, vp, rfl, hRan, hPe, hX34⟩
        obtain ⟨hlr, hlp, heach⟩ := HOF.out
        obtain ⟨Ar, cr, rfl, _, _⟩ := id hRan
        obtain ⟨Ap, cp, rfl, hcp, hcp2⟩ := SlR.form hPe
        unfold maxLen at hcp2
        have HRan := Lib.hid hRan
        have HPe := Lib.hid hPe
        have HLR := Lib.hid hlr
        have HLP := Lib.hid hlp
        have HEA := Lib.hid heach
        have HOFX := True.intro
        clear hRan hPe hlr hlp heach HOFX
        generalize (ofT L l.length).ran = rn at *
        generalize (ofT L l.length).pend = pe at *
        have hX35 := hX34.alloc (.cells #[.slice Ar rn.length cr, .slice Ap pe.length cp] 37)
        have hB5 := Blk.new W4 #[.slice Ar rn.length cr, .slice Ap pe.length cp] 37
        have hPe5 := SlR.ext HPe.out (w' := W4.alloc (.cells #[.slice Ar rn.length cr, .slice Ap pe.length cp] 37)) (fun _ _ _ h => h.ext ((Ext.refl W4).alloc _))
        have hRn5 := HRan.out.ext ((Ext.refl W4).alloc (.cells #[.slice Ar rn.length cr, .slice Ap pe.length cp] 37))
        have HPe5 := Lib.hid hPe5
        have HRn5 := Lib.hid hRn5
        clear hPe5 hRn5
        go_upto_region 5 with (fail)
        generalize W4.alloc _ = W5 at hX35 hB5 HPe5 HRn5 ⊢
        generalize W4.heap.size = g5 at hB5 ⊢
        have hu5 := hB5.under
        go_wp2_with (fail)
        go_loopw [8] (fun i wr => ∃ (t : Nat), t ≤ l.length ∧ i = .int .i64 t ∧ Ext W5 wr) (fun i _ => l.length - (intOf i).toNat)
        case atStart => exact ⟨0, by omega, rfl, Ext.refl W5⟩
        case round =>
          obtain ⟨t, ht2, rfl, hX⟩ := hrel
          by_cases hltt : t < l.length
          · have htp : t < pe.length := by rw [HLP.out]; exact hltt
            have htr : t < rn.length := by rw [HLR.out]; exact hltt
            obtain ⟨bp, op, rfl, r, z0, hI⟩ := SlR.at HPe5.out htp
            obtain ⟨br, or', rfl, hxr⟩ := HRn5.out.at htr
            have HI := Lib.hid hI
            obtain ⟨Ai, ci, rfl, _, hci, _⟩ := hI
            unfold maxLen at hci
            rw [Nat.mul_one] at z0
            have zu : ∀ w', Ext W5 w' → w'.cell? ⟨bp, op + t, none⟩ = some (.slice Ai (pe[t]).length ci) := fun w' h => h.cell z0
            have hea := (HEA.out t hltt).1
            rw [getD_at htp [], getD_at htr 0] at hea
            have HEAT := Lib.hid hea
            clear hea z0
            generalize pe[t] = row at *
            generalize rn[t] = x at *
            have y0 := zu wr hX
            have y1 := hxr wr hX
            have hc7 := hu5 wr hX
            obtain ⟨b0, hb0⟩ : ∃ b0, (x == -1) = b0 := ⟨_, rfl⟩
            have HB0 := Lib.hid hb0
            go_upto_region 9 with (fail)
            clear hb0 y0 y1 hc7
            have HX := Lib.hid hX
            go_wp2_with (fail)
            go_loopw [9, 10] (fun v i wr2 => ∃ (j : Nat) (b : Bool), j ≤ row.length ∧ i = .int .i64 j ∧ v = .bool b ∧ Hid (b = (b0 || (row.take j).any (· == x))) ∧ Ext W5 wr2) (fun _ i _ => row.length - (intOf i).toNat)
            case atStart => exact ⟨0, b0, by omega, rfl, rfl, Lib.hid (by simp), HX.out⟩
            case round =>
              obtain ⟨j, b, hj, rfl, rfl, hb, hX2⟩ := hrel
              clear hX
              have y0 := zu wr hX2
              have y1 := hxr wr hX2
              have hc7 := hu5 wr hX2
              by_cases hltj : j < row.length
              · obtain ⟨bi, oi, rfl, hxi⟩ := HI.out.at hltj
                have y2 := hxi wr hX2
                have hstep : (row.take (j + 1)).any (· == x) = ((row.take j).any (· == x) || (row[j] == x)) := by
                  rw [List.take_succ_eq_append_getElem hltj, List.any_append]
                  simp
                have HST := Lib.hid hstep
                clear hxi hstep
                generalize row[j] = y at *
                cases b with
                | true =>
                  go_wp2_with (fail)
                  go_quiet (fail)
                  go_wp2_with (fail)
                  exact ⟨⟨j + 1, true, hltj, rfl, rfl, Lib.hid (by rw [HST.out, ← Bool.or_assoc, ← hb.out]; rfl), hX2.drewN _⟩, by simp [intOf]; omega⟩
                | false =>
                  cases dy : (y == x) with
                  | true =>
                    go_wp2_with (fail)
                    go_quiet (fail)
                    go_wp2_with (fail)
                    exact ⟨⟨j + 1, true, hltj, rfl, rfl, Lib.hid (by rw [HST.out, ← Bool.or_assoc, ← hb.out, dy]; rfl), hX2.drewN _⟩, by simp [intOf]; omega⟩
                  | false =>
                    go_wp2_with (fail)
                    go_quiet (fail)
                    go_wp2_with (fail)
                    exact ⟨⟨j + 1, false, hltj, rfl, rfl, Lib.hid (by rw [HST.out, ← Bool.or_assoc, ← hb.out, dy]; rfl), hX2.drewN _⟩, by simp [intOf]; omega⟩
              · have hje : j = row.length := by omega
                have hbt : b = true := by
                  rw [hb.out, hje, List.take_length]
                  rcases HEAT.out with h | h
                  · have : b0 = true := by rw [← HB0.out, h]; rfl
                    rw [this]; rfl
                  · rw [show (row.any (· == x)) = true from List.any_eq_true.2 ⟨x, h, by simp⟩, Bool.or_true]
                subst hbt
                clear hje
                go_wp2_with (fail)
                exact ⟨⟨t + 1, hltt, rfl, hX2⟩, by simp [intOf]; omega⟩
          · have hte : t = l.length := by omega
            subst hte
            have HX := Lib.hid hX
            clear hX
            go_wp2_with (fail)
            go_loopw [11, 12] (fun v i wr2 => ∃ (k : Nat) (z : Int), k ≤ L.length ∧ i = .int .i64 k ∧ v = .int .i64 z ∧ Hid (∀ q, k ≤ q → q < L.length → z ≤ (evAt L q).tick) ∧ Ext W5 wr2) (fun _ i _ => L.length - (intOf i).toNat)
            case atStart => exact ⟨0, 0, by omega, rfl, rfl, Lib.hid (fun q _ hq => (HEV.out.tick (evAt L q) (by rw [evAt_in hq]; exact List.getElem_mem hq)).1), HX.out⟩
            case round =>
              obtain ⟨k, z, hk2, rfl, rfl, hz, hX⟩ := hrel
              clear HX
              by_cases hlt : k < L.length
              · obtain ⟨bl, ol, rfl, hx⟩ := HE.out.at hlt
                obtain ⟨x0, -, -, -⟩ := hx wr (hX35.trans hX)
                have htk := HEV.out.tick (evAt L k) (by rw [evAt_in hlt]; exact List.getElem_mem hlt)
                have hz0 := hz.out k (Nat.le_refl _) hlt
                have hnx : ∀ q, k + 1 ≤ q → q < L.length → (evAt L k).tick ≤ (evAt L q).tick := fun q hq1 hq2 => by
                  rw [evAt_in hlt, evAt_in hq2]
                  exact List.pairwise_iff_getElem.1 HEV.out.sorted k q hlt hq2 (by omega)
                have HNX := Lib.hid hnx
                clear hx hnx
                generalize (evAt L k).tick = p0 at *
                have d1 : decide (p0 < z) = false := decide_eq_false (by omega)
                have d2 : decide ((l.length : Int) ≤ p0) = false := decide_eq_false (by omega)
                clear htk hz0
                go_wp2_with (fail)
                exact ⟨⟨k + 1, p0, hlt, rfl, rfl, HNX, hX⟩, by simp [intOf]; omega⟩
              · have hke : k = L.length := by omega
                subst hke
                have hXf := hXW3.trans (hX35.trans hX)
                go_wp2_with (fail)
                refine (HKN.out wr hXf).mono ?_
                rintro e W9 ⟨rfl, hb9⟩
                go_wp2_with (fail)
                go_ret
                exact ⟨rfl, (hXf.call hb9).below⟩
end Go.Proofs.YtniejidekflmiaaDoor
