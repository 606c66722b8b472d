/- law 25: while a job is pending the processor is not idle. -/
import Derived.Test.YtniejidekflmiaaDoorProg
import Derived.Test.YtniejidekflmiaaDoorBase
import Derived.Test.YtniejidekflmiaaDoorHeldX
import Derived.Test.YtniejidekflmiaaDoorHeldN
import Derived.Test.YtniejidekflmiaaDoorApp
import Derived.Test.YtniejidekflmiaaDoorExt0
import Derived.Test.YtniejidekflmiaaDoorChg
import Derived.Test.YtniejidekflmiaaDoorKM
import Derived.Test.YtniejidekflmiaaDoorKP1
import Derived.Test.YtniejidekflmiaaDoorKO
import Derived.Test.YtniejidekflmiaaDoorOpenI
import Derived.Test.YtniejidekflmiaaDoorKker
import Derived.Test.YtniejidekflmiaaDoorTskZ
import Derived.Test.YtniejidekflmiaaDoorTskA
import Derived.Test.YtniejidekflmiaaDoorSetO
import Derived.Test.YtniejidekflmiaaDoorKch
import Derived.Test.YtniejidekflmiaaDoorEvO
import Derived.Test.YtniejidekflmiaaDoorKrn
import Derived.Test.YtniejidekflmiaaDoorOfW
import Derived.Deep.Cut
import Derived.Lib.Hide
import Derived.OwnWalk
import Derived.BigQuiet
import Derived.Laws.OwnMore
import Derived.Laws.MakeOwn
namespace Go.Proofs.YtniejidekflmiaaDoor
open Go.RowKit
attribute [local go_sem] setCell_twice ByteArray.toList_eq str_list Ext.alloc Ext.drew
set_option linter.unusedSimpArgs false
set_option linter.unusedVariables false
set_option maxRecDepth 100000
set_option maxHeartbeats 1600000
attribute [local irreducible] Calls


theorem infoB1 : (Tryd.prog.info? 4).map (fun i => (i.zero, i.size, i.bytes)) = some (some (.bool false), 1, 1) := by kernel_rfl
theorem make_bool {n : Nat} (h : n ≤ 1000) (w : World) : (Instr.makeSlice 39 (.int .i64 n) (.int .i64 n)).run Tryd.prog w = .ok (.slice (some ⟨w.heap.size, 0, none⟩) n n) (w.alloc (.cells (Array.replicate n (Value.bool false)) 4)) := by
  obtain ⟨i, hi, hz0, hz1, hz2⟩ := info_parts infoB1
  have := run_make w 39 4 i (.bool false) Tryd.underlying39 hi hz0 .i64 .i64 n n (by omega) (Int.le_refl _) (by rw [hz2]; omega) (by omega)
  rw [hz1, Int.toNat_natCast, Nat.mul_one] at this
  rw [this]
  have e : madeCells (Value.bool false).cells n = Array.replicate n (Value.bool false) := by
    refine Array.ext' ?_
    show (madeCells #[Value.bool false] n).toList = _
    rw [toList_madeCells_one]
    simp
  rw [e]

/-- ticks at which it is idle, by the first k events -/
def idleA (L : List Ev) (n k : Nat) : List Bool := (List.range n).map fun (t : Nat) => (L.take k).any fun e => e.kind == 10 && e.tick == (t : Int)
theorem idleA_len (L : List Ev) (n k : Nat) : (idleA L n k).length = n := by simp [idleA]
theorem idleA_at (L : List Ev) (n k : Nat) {t : Nat} (h : t < n) : (idleA L n k).getD t false = (L.take k).any fun e => e.kind == 10 && e.tick == (t : Int) := by
  rw [getD_at (by rw [idleA_len]; exact h)]
  simp [idleA]
theorem idleA_zero (L : List Ev) (n : Nat) : idleA L n 0 = List.replicate n false := by
  unfold idleA
  refine List.ext_getElem (by simp) fun i h1 h2 => ?_
  simp
theorem idleA_off {L : List Ev} {n k : Nat} (hk : k < L.length) (h : (evAt L k).kind ≠ 10) : idleA L n (k + 1) = idleA L n k := by
  unfold idleA
  refine List.map_congr_left fun t _ => ?_
  rw [List.take_succ_eq_append_getElem hk, List.any_append, ← evAt_in hk]
  have : ((evAt L k).kind == 10) = false := by simpa using h
  simp [this]
theorem idleA_on {L : List Ev} {n k t : Nat} (hk : k < L.length) (h : (evAt L k).kind = 10) (ht : (evAt L k).tick = t) : idleA L n (k + 1) = (idleA L n k).set t true := by
  refine List.ext_getElem (by simp [idleA]) fun i h1 h2 => ?_
  have hi : i < n := by rw [idleA_len] at h1; exact h1
  rw [List.getElem_set]
  simp only [idleA, List.getElem_map, List.getElem_range]
  rw [List.take_succ_eq_append_getElem hk, List.any_append, ← evAt_in hk]
  simp only [List.any_cons, List.any_nil, Bool.or_false, h, ht]
  by_cases e : t = i
  · subst e
    simp
  · rw [if_neg e]
    have : ((t : Int) == (i : Int)) = false := by rw [beq_eq_false_iff_ne]; omega
    simp [this]
theorem idleA_all {L : List Ev} {n t : Nat} (h : t < n) : (idleA L n L.length).getD t false = decide (∃ e ∈ L, e.tick = t ∧ e.kind = 10) := by
  rw [idleA_at L n _ h, List.take_length, Bool.eq_iff_iff, List.any_eq_true, decide_eq_true_eq]
  constructor
  · rintro ⟨e, he, h1⟩
    simp only [Bool.and_eq_true, beq_iff_eq] at h1
    exact ⟨e, he, h1.2, h1.1⟩
  · rintro ⟨e, he, h1, h2⟩
    exact ⟨e, he, by simp [h1, h2]⟩
/-- a row of truths in a block -/
structure RowT (w : World) (g : Nat) (xs : List Bool) : Prop where
  box : Blk w g (xs.map Value.bool).toArray 4
theorem RowT.ext {w w' : World} {g : Nat} {xs : List Bool} (h : RowT w g xs) (hx : Ext w w') : RowT w' g xs := ⟨h.box.ext hx⟩
theorem RowT.at {w : World} {g : Nat} {xs : List Bool} (h : RowT w g xs) {i : Nat} (hi : i < xs.length) : w.cell? ⟨g, i, none⟩ = some (.bool (xs.getD i false)) := by
  rw [h.box.cell, List.getElem?_toArray, List.getElem?_map, List.getElem?_eq_getElem hi, getD_at hi]
  rfl
theorem RowT.set {w : World} {g : Nat} {xs : List Bool} (h : RowT w g xs) (i : Nat) (x : Bool) : RowT (w.setCell ⟨g, i, none⟩ (.bool x)) g (xs.set i x) := by
  have := h.box.set i (.bool x)
  refine ⟨?_⟩
  rw [List.map_set]
  simpa using this
theorem kernelBusy_walk (v0 : Value) (s : TSet) (vl : Value) (l : List Inp) (w : World) (hv0 : ∃ u, v0 = setV s u ∧ Tasks w u s.tasks ∧ s.fit) (hl0 : SlR InpR 3 Any w vl l ∧ ∀ x ∈ l, x.ok) (hG : G25 w) :
    Calls Tryd.prog 4 #[v0, vl] w fun e w' => e = .returned (.bool true) ∧ Below w.heap.size w w' := by
  obtain ⟨u, rfl, hv, hf⟩ := hv0
  obtain ⟨hl, ho⟩ := hl0
  obtain ⟨A, c, rfl, hcc, hcm, hxx⟩ := id hv
  obtain ⟨Al, cl, rfl, hcl, hcm2⟩ := SlR.form hl
  clear hxx
  unfold maxLen at hcm hcm2
  have hX1 := (Ext.refl w).alloc (.cells #[.int .i64 s.reload, .slice A s.tasks.length c] 24)
  have hB1 := Blk.new w #[.int .i64 s.reload, .slice A s.tasks.length c] 24
  have hAll := fun w' (hx : Ext w w') => allR_any s (.slice A s.tasks.length c) w' (hv.ext hx) hf.good
  have hLong := fun w' (hx : Ext w w') => long_any (.slice Al l.length cl) l w' (SlR.ext hl fun _ _ _ h => h.ext hx)
  have hRun := fun w' (hx : Ext w w') (hb : allB s = true) (hlg : longB l = false) => runs25_any s (.slice A s.tasks.length c) (.slice Al l.length cl) l w' (hv.ext hx) hf.good (hG.ext hx).gok hb (kh_of hb hf) (SlR.ext hl fun _ _ _ h => h.ext hx) ho (by have := longB_no hlg; omega) (hG.ext hx).db
  have hKn := fun w' (hx : Ext w w') => known25_any w' (hG.ext hx)
  unfold setV at hAll hRun ⊢
  have HALL := Lib.hid hAll
  have HLONG := Lib.hid hLong
  have HRUN := Lib.hid hRun
  have HKN := Lib.hid hKn
  have HV := Lib.hid hv
  have HG := Lib.hid hG
  clear hAll hLong hRun hKn hv hl hG
  cases hd : decide (10 < (s.tasks.length : Int)) with
  | true =>
    go_enter Tryd.func4, Tryd.ntmps4
    go_wp2_with (fail)
    go_ret
    exact ⟨rfl, hX1.below⟩
  | false =>
    go_enter Tryd.func4, Tryd.ntmps4
    go_upto_region 1 with (fail)
    generalize hW : w.alloc _ = W1 at hX1 hB1 ⊢
    clear hW
    have hcB := hB1.under
    have hc1 := hB1.cell
    go_wp2_with (fail)
    refine (HALL.out W1 hX1).mono ?_
    rintro e W2 ⟨rfl, hb2⟩
    have hX12 : Ext W1 W2 := ⟨hb2⟩
    have hXW2 := hX1.trans hX12
    clear hb2 hc1
    cases hb : allB s with
    | false =>
      go_wp2_with (fail)
      go_ret
      exact ⟨rfl, hXW2.below⟩
    | true =>
      go_wp2_with (fail)
      refine (HLONG.out W2 hXW2).mono ?_
      rintro e W3 ⟨rfl, rfl⟩
      cases hlg : longB l with
      | true =>
        go_wp2_with (fail)
        go_ret
        exact ⟨rfl, hXW2.below⟩
      | false =>
        have hc2 := hcB W2 hX12
        have hrun := HRUN.out W2 hXW2 hb hlg
        have hk := kh_of hb hf
        have hev := allEv hk.kh l
        have hof := of_all hk.kh l
        have hl250 := longB_no hlg
        have hfew := runK_few hk.kh.len.2 l (initK s)
        have hfew2 : (eventsK s l).length ≤ 25000 := by
          unfold eventsK
          omega
        clear hfew
        generalize hE : eventsK s l = L at *
        have HRun := Lib.hid hrun
        have HEV := Lib.hid hev
        have HOF := Lib.hid hof
        have HB := Lib.hid hb
        clear hrun hev hof hlg hb HRUN HLONG hE
        go_wp2_with (fail)
        refine HRun.out.mono ?_
        rintro e W3 ⟨vo, rfl, hO, hX23⟩
        have hX13 := hX12.trans hX23
        have hXW3 := hX1.trans hX13
        obtain ⟨Ao, co, rfl, hco, hco2⟩ := OwnL.form hO
        unfold maxLen at hco2
        have HE := Lib.hid (OwnL.evs hO)
        have hc3 := hcB W3 hX13
        clear hO HRun hc2
        have hOf := of_any (.slice Ao L.length co) L l.length W3 (by omega) HE.out
        have HOf := Lib.hid hOf
        clear hOf hc3
        go_wp2_with (fail)
        refine HOf.out.mono ?_
        rintro e W4 ⟨vr, vp, rfl, hRan, hPe, hX34⟩
        obtain ⟨hlr, hlp, heach⟩ := HOF.out
        obtain ⟨Ar, cr, rfl, _, _⟩ := id hRan
        obtain ⟨Ap, cp, rfl, hcp, hcp2⟩ := SlR.form hPe
        unfold maxLen at hcp2
        have HRan := Lib.hid hRan
        have HPe := Lib.hid hPe
        have HLR := Lib.hid hlr
        have HLP := Lib.hid hlp
        have HEA := Lib.hid heach
        have HOFX := True.intro
        clear hRan hPe hlr hlp heach HOFX
        generalize (ofT L l.length).ran = rn at *
        generalize (ofT L l.length).pend = pe at *
        have hmk := fun w => make_bool (n := l.length) (by omega) w
        have hX35 := hX34.alloc (.cells #[.slice Ar rn.length cr, .slice Ap pe.length cp] 37)
        have hB5 := Blk.new W4 #[.slice Ar rn.length cr, .slice Ap pe.length cp] 37
        have hPe5 := SlR.ext HPe.out (w' := W4.alloc (.cells #[.slice Ar rn.length cr, .slice Ap pe.length cp] 37)) (fun _ _ _ h => h.ext ((Ext.refl W4).alloc _))
        have HPe5 := Lib.hid hPe5
        have hsz5 := hX35.size
        clear hPe5
        go_upto_region 5 with (fail)
        generalize W4.alloc _ = W5 at hX35 hB5 HPe5 hsz5 ⊢
        generalize W4.heap.size = g5 at hB5 ⊢
        go_wp2_with (fail)
        have hI0 : RowT (W5.alloc (.cells (Array.replicate l.length (Value.bool false)) 4)) W5.heap.size (idleA L l.length 0) := ⟨by rw [idleA_zero, show ((List.replicate l.length false).map Value.bool).toArray = Array.replicate l.length (Value.bool false) by simp]; exact Blk.new _ _ _⟩
        have hX56 := (Ext.refl W5).alloc (.cells (Array.replicate l.length (Value.bool false)) 4)
        have hu5 := hB5.under
        clear hmk
        go_loopw [9] (fun i wr => ∃ (k : Nat), k ≤ L.length ∧ i = .int .i64 k ∧ RowT wr W5.heap.size (idleA L l.length k) ∧ Ext W5 wr) (fun i _ => L.length - (intOf i).toNat)
        case atStart => exact ⟨0, by omega, rfl, hI0, hX56⟩
        case round =>
          obtain ⟨k, hk2, rfl, hA, hX⟩ := hrel
          clear hI0 hX56
          by_cases hlt : k < L.length
          · obtain ⟨bl, ol, rfl, hx⟩ := HE.out.at hlt
            have hoff := idleA_off (n := l.length) hlt
            have hon := fun (t : Nat) => idleA_on (n := l.length) (t := t) hlt
            have htk := HEV.out.tick (evAt L k) (by rw [evAt_in hlt]; exact List.getElem_mem hlt)
            obtain ⟨x0, x1, x2, x3⟩ := hx wr (hX35.trans hX)
            clear hx
            generalize evAt L k = p at *
            obtain ⟨p0, p1, p2, p3⟩ := p
            dsimp only at x0 x1 x2 x3 hoff hon htk
            cases d1 : (p1 == 10) with
            | false =>
              have HN := Lib.hid (hoff (by simpa using d1))
              have HA1 := Lib.hid hA
              clear hoff hon hA
              go_wp2_with (fail)
              exact ⟨⟨k + 1, hlt, rfl, by rw [HN.out]; exact HA1.out, hX⟩, by simp [intOf]; omega⟩
            | true =>
              obtain ⟨t, rfl⟩ := Int.eq_ofNat_of_zero_le htk.1
              have htn : t < l.length := by omega
              have HN := Lib.hid (hon t (by simpa using d1) rfl)
              have hct := hA.at (show t < (idleA L l.length k).length by rw [idleA_len]; exact htn)
              have hft := hA.box.free t
              have HA1 := Lib.hid hA
              clear hoff hon hA htk
              go_wp2_with (fail)
              exact ⟨⟨k + 1, hlt, rfl, by rw [HN.out]; exact HA1.out.set t true, hX.set (Nat.le_refl _) _⟩, by simp [intOf]; omega⟩
          · have hke : k = L.length := by omega
            subst hke
            have HA1 := Lib.hid hA
            have HX1 := Lib.hid hX
            clear hA hX
            go_wp2_with (fail)
            go_loopw [10] (fun i wr2 => ∃ (t : Nat), t ≤ l.length ∧ i = .int .i64 t ∧ Ext wr wr2) (fun i _ => l.length - (intOf i).toNat)
            case atStart => exact ⟨0, by omega, rfl, Ext.refl wr⟩
            case round =>
              obtain ⟨t, ht2, rfl, hX⟩ := hrel
              by_cases hltt : t < l.length
              · have htp : t < pe.length := by rw [HLP.out]; exact hltt
                obtain ⟨bp, op, rfl, r, z0, hI⟩ := SlR.at HPe5.out htp
                obtain ⟨Ai, ci, rfl, _, _, _⟩ := hI
                have hX5 := HX1.out.trans hX
                have y0 := hX5.cell z0
                rw [Nat.mul_one] at y0
                have hA2 := HA1.out.ext hX
                have hct := hA2.at (show t < (idleA L l.length L.length).length by rw [idleA_len]; exact hltt)
                rw [idleA_all hltt] at hct
                have hea := (HEA.out t hltt).2
                have hgd : pe.getD t [] = pe[t] := getD_at htp []
                rw [hgd] at hea
                have hc7 := hu5 wr hX5
                have hbe : decide (∃ e ∈ L, e.tick = (t : Int) ∧ e.kind = 10) = ((pe[t].length : Int) == 0) := by
                  by_cases h : pe[t] = []
                  · rw [decide_eq_true (hea.1 h), h]; rfl
                  · rw [decide_eq_false (fun h2 => h (hea.2 h2))]
                    have : ((pe[t].length : Int) == 0) = false := by
                      rw [beq_eq_false_iff_ne]
                      intro h2
                      exact h (List.length_eq_zero_iff.1 (by omega))
                    rw [this]
                rw [hbe] at hct
                clear hea hgd hbe z0 hA2
                generalize pe[t] = row at *
                cases dl : ((row.length : Int) == 0) with
                | false =>
                  rw [dl] at hct
                  go_wp2_with (fail)
                  go_quiet (fail)
                  go_wp2_with (fail)
                  exact ⟨⟨t + 1, hltt, rfl, hX.drewN _⟩, by simp [intOf]; omega⟩
                | true =>
                  rw [dl] at hct
                  go_wp2_with (fail)
                  go_quiet (fail)
                  go_wp2_with (fail)
                  exact ⟨⟨t + 1, hltt, rfl, hX.drewN _⟩, by simp [intOf]; omega⟩
              · have hte : t = l.length := by omega
                subst hte
                have hXf := hXW3.trans (hX35.trans (HX1.out.trans hX))
                go_wp2_with (fail)
                refine (HKN.out wr hXf).mono ?_
                rintro e W9 ⟨rfl, hb9⟩
                go_wp2_with (fail)
                go_ret
                exact ⟨rfl, (hXf.call hb9).below⟩
end Go.Proofs.YtniejidekflmiaaDoor
