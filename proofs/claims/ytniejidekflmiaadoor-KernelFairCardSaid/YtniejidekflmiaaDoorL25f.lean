/- law 25: fair. -/
import Derived.Test.YtniejidekflmiaaDoorProg
import Derived.Test.YtniejidekflmiaaDoorBase
import Derived.Test.YtniejidekflmiaaDoorHeldX
import Derived.Test.YtniejidekflmiaaDoorHeldN
import Derived.Test.YtniejidekflmiaaDoorApp
import Derived.Test.YtniejidekflmiaaDoorExt0
import Derived.Test.YtniejidekflmiaaDoorChg
import Derived.Test.YtniejidekflmiaaDoorKM
import Derived.Test.YtniejidekflmiaaDoorKP1
import Derived.Test.YtniejidekflmiaaDoorKO
import Derived.Test.YtniejidekflmiaaDoorOpenI
import Derived.Test.YtniejidekflmiaaDoorKker
import Derived.Test.YtniejidekflmiaaDoorTskZ
import Derived.Test.YtniejidekflmiaaDoorTskA
import Derived.Test.YtniejidekflmiaaDoorSetO
import Derived.Test.YtniejidekflmiaaDoorKch
import Derived.Test.YtniejidekflmiaaDoorEvO
import Derived.Test.YtniejidekflmiaaDoorKrn
import Derived.Deep.Cut
import Derived.Lib.Hide
import Derived.OwnWalk
import Derived.BigQuiet
namespace Go.Proofs.YtniejidekflmiaaDoor
open Go.RowKit
attribute [local go_sem] setCell_twice ByteArray.toList_eq str_list Ext.alloc Ext.drew
set_option linter.unusedSimpArgs false
set_option linter.unusedVariables false
set_option maxRecDepth 100000
set_option maxHeartbeats 1600000
attribute [local irreducible] Calls

theorem kernelFair_walk (v0 : Value) (s : TSet) (vl : Value) (l : List Inp) (w : World) (hv0 : ∃ u, v0 = setV s u ∧ Tasks w u s.tasks ∧ s.fit) (hl0 : SlR InpR 3 Any w vl l ∧ ∀ x ∈ l, x.ok) (hG : G25 w) :
    Calls Tryd.prog 3 #[v0, vl] w fun e w' => e = .returned (.bool true) ∧ Below w.heap.size w w' := by
  obtain ⟨u, rfl, hv, hf⟩ := hv0
  obtain ⟨hl, ho⟩ := hl0
  obtain ⟨A, c, rfl, hcc, hcm, hxx⟩ := id hv
  obtain ⟨Al, cl, rfl, hcl, hcm2⟩ := SlR.form hl
  clear hxx
  unfold maxLen at hcm hcm2
  have hX1 := (Ext.refl w).alloc (.cells #[.int .i64 s.reload, .slice A s.tasks.length c] 24)
  have hB1 := Blk.new w #[.int .i64 s.reload, .slice A s.tasks.length c] 24
  have hAll := fun w' (hx : Ext w w') => allR_any s (.slice A s.tasks.length c) w' (hv.ext hx) hf.good
  have hLong := fun w' (hx : Ext w w') => long_any (.slice Al l.length cl) l w' (SlR.ext hl fun _ _ _ h => h.ext hx)
  have hRun := fun w' (hx : Ext w w') (hb : allB s = true) (hlg : longB l = false) => runs25_any s (.slice A s.tasks.length c) (.slice Al l.length cl) l w' (hv.ext hx) hf.good (hG.ext hx).gok hb (kh_of hb hf) (SlR.ext hl fun _ _ _ h => h.ext hx) ho (by have := longB_no hlg; omega) (hG.ext hx).db
  have hKn := fun w' (hx : Ext w w') => known25_any w' (hG.ext hx)
  unfold setV at hAll hRun ⊢
  have HALL := Lib.hid hAll
  have HLONG := Lib.hid hLong
  have HRUN := Lib.hid hRun
  have HKN := Lib.hid hKn
  have HV := Lib.hid hv
  have HG := Lib.hid hG
  clear hAll hLong hRun hKn hv hl hG
  cases hd : decide (10 < (s.tasks.length : Int)) with
  | true =>
    go_enter Tryd.func3, Tryd.ntmps3
    go_wp2_with (fail)
    go_ret
    exact ⟨rfl, hX1.below⟩
  | false =>
    go_enter Tryd.func3, Tryd.ntmps3
    go_upto_region 1 with (fail)
    generalize hW : w.alloc _ = W1 at hX1 hB1 ⊢
    clear hW
    have hcB := hB1.under
    have hc1 := hB1.cell
    go_wp2_with (fail)
    refine (HALL.out W1 hX1).mono ?_
    rintro e W2 ⟨rfl, hb2⟩
    have hX12 : Ext W1 W2 := ⟨hb2⟩
    have hXW2 := hX1.trans hX12
    clear hb2 hc1
    cases hb : allB s with
    | false =>
      go_wp2_with (fail)
      go_ret
      exact ⟨rfl, hXW2.below⟩
    | true =>
      go_wp2_with (fail)
      refine (HLONG.out W2 hXW2).mono ?_
      rintro e W3 ⟨rfl, rfl⟩
      cases hlg : longB l with
      | true =>
        go_wp2_with (fail)
        go_ret
        exact ⟨rfl, hXW2.below⟩
      | false =>
        have hc2 := hcB W2 hX12
        have hrun := HRUN.out W2 hXW2 hb hlg
        have hk := kh_of hb hf
        have hev := allEv hk.kh l
        have hof := of_all hk.kh l
        have hl250 := longB_no hlg
        have hfew := runK_few hk.kh.len.2 l (initK s)
        have hfew2 : (eventsK s l).length ≤ 25000 := by
          unfold eventsK
          omega
        clear hfew
        generalize hE : eventsK s l = L at *
        have HRun := Lib.hid hrun
        have HEV := Lib.hid hev
        have HOF := Lib.hid hof
        have HB := Lib.hid hb
        clear hrun hev hof hlg hb HRUN HLONG hE
        go_wp2_with (fail)
        refine HRun.out.mono ?_
        rintro e W3 ⟨vo, rfl, hO, hX23⟩
        have hX13 := hX12.trans hX23
        have hXW3 := hX1.trans hX13
        obtain ⟨Ao, co, rfl, hco, hco2⟩ := OwnL.form hO
        unfold maxLen at hco2
        have HE := Lib.hid (OwnL.evs hO)
        have hc3 := hcB W3 hX13
        clear hO HRun hc2
        have hFair := fair_any s (.slice A s.tasks.length c) (.slice Ao L.length co) L W3 (HV.out.ext hXW3) hf.good HB.out hk (fun e he => by have := HEV.out.tick e he; omega) HE.out
        rw [fair_of HEV.out.fair (fun e he => (HEV.out.tick e he).1) HEV.out.sorted] at hFair
        unfold setV at hFair
        have HF := Lib.hid hFair
        clear hFair
        go_wp2_with (fail)
        refine HF.out.mono ?_
        rintro e W4 ⟨rfl, hX4⟩
        clear hc3
        go_wp2_with (fail)
        refine (HKN.out W4 (hXW3.trans hX4)).mono ?_
        rintro e W5 ⟨rfl, hb5⟩
        go_wp2_with (fail)
        go_ret
        exact ⟨rfl, ((hXW3.trans hX4).call hb5).below⟩
end Go.Proofs.YtniejidekflmiaaDoor
