/- law 25: what is loaded again at a Resume is no more than is told of the task. -/
import Derived.Test.YtniejidekflmiaaDoorProg
import Derived.Test.YtniejidekflmiaaDoorBase
import Derived.Test.YtniejidekflmiaaDoorHeldX
import Derived.Test.YtniejidekflmiaaDoorHeldN
import Derived.Test.YtniejidekflmiaaDoorApp
import Derived.Test.YtniejidekflmiaaDoorExt0
import Derived.Test.YtniejidekflmiaaDoorChg
import Derived.Test.YtniejidekflmiaaDoorKM
import Derived.Test.YtniejidekflmiaaDoorKP1
import Derived.Test.YtniejidekflmiaaDoorKO
import Derived.Test.YtniejidekflmiaaDoorOpenI
import Derived.Test.YtniejidekflmiaaDoorKker
import Derived.Test.YtniejidekflmiaaDoorTskZ
import Derived.Test.YtniejidekflmiaaDoorTskA
import Derived.Test.YtniejidekflmiaaDoorSetO
import Derived.Test.YtniejidekflmiaaDoorKch
import Derived.Test.YtniejidekflmiaaDoorEvO
import Derived.Test.YtniejidekflmiaaDoorKrn
import Derived.Test.YtniejidekflmiaaDoorBit
import Derived.Test.YtniejidekflmiaaDoorKtur
import Derived.Deep.Cut
import Derived.Lib.Hide
import Derived.OwnWalk
import Derived.BigQuiet
namespace Go.Proofs.YtniejidekflmiaaDoor
open Go.RowKit
attribute [local go_sem] setCell_twice ByteArray.toList_eq str_list Ext.alloc Ext.drew
set_option linter.unusedSimpArgs false
set_option linter.unusedVariables false
set_option maxRecDepth 100000
set_option maxHeartbeats 1600000
attribute [local irreducible] Calls


theorem own25_any (s : TSet) (v : Value) (k : Nat) (w : World) (hv : Tasks w v s.tasks) (hs : KH2 s) (hk : k < s.tasks.length) :
    Calls Tryd.prog 19 #[setV s v, .int .i64 k] w fun e w' => e = .returned (.int .i64 (s.reload * popK (s.tk k).ucb.toNat)) ∧ Below w.heap.size w w' := by
  have l1 := hv.len
  have hv0 := hv
  obtain ⟨A, c, rfl, hle, hcm, _⟩ := hv0
  have hu := (hs.u k hk).1
  have hbits := (hs.kh.bits k hk).1
  have hrl := hs.kh.reload
  rw [tk_in s hk] at hu hbits ⊢
  obtain ⟨oz, hoz⟩ : ∃ oz, s.reload * (popK s.tasks[k].ucb.toNat : Int) = oz := ⟨_, rfl⟩
  have how := mul_small hrl.1 hrl.2 (popK_64 s.tasks[k].ucb.toNat)
  rw [hoz] at how ⊢
  go_enter Tryd.func19, Tryd.ntmps19
  unfold setV
  go_upto_region 1 with (fail)
  have hL : Below w.heap.size w (w.alloc (.cells #[.int .i64 s.reload, (.slice A s.tasks.length c)] 24)) := (by repeat (first | exact Below.refl _ _ | assumption | refine Below.drew ?_ | refine Below.alloc ?_ (by first | (simp; done) | (simp; omega) | omega) _ | refine Below.setCell ?_ (by first | (simp; done) | (simp; omega) | omega) _)); have hB : Blk (w.alloc (.cells #[.int .i64 s.reload, (.slice A s.tasks.length c)] 24)) w.heap.size #[.int .i64 s.reload, (.slice A s.tasks.length c)] 24 := Blk.new _ _ _
  have hr := hv.ext ⟨hL⟩
  generalize w.alloc _ = W at hL hB hr ⊢
  have hc := hB.under
  refine wp_region_all' (S := Ext W) (Ext.refl W) (fun K hK => ?_); (repeat (first | (apply hO_and; (· rfl); (· rfl); (· rfl); (· rfl); simp only [Act.put, List.setIfInBounds_toArray, List.set_cons_zero, List.set_cons_succ]) | (apply hO_or; (· rfl); (· rfl); (· rfl); (· rfl); simp only [Act.put, List.setIfInBounds_toArray, List.set_cons_zero, List.set_cons_succ]) | (apply hO_off; (· rfl); (· rfl); simp only [Act.put, List.setIfInBounds_toArray, List.set_cons_zero, List.set_cons_succ]) | (apply hO_val; (· intro w hS; go_simp; with_reducible rfl); (· rfl); simp only [Act.put, List.setIfInBounds_toArray, List.set_cons_zero, List.set_cons_succ]) | (apply hO_call; (· rfl); (· intro w hS; go_simp; exact ⟨rfl, rfl⟩); (· intro w hS; fail); simp only [Act.put, List.setIfInBounds_toArray, List.set_cons_zero, List.set_cons_succ]) | (apply hO_if; (· rfl); (· rfl); (· intro hif w hS; go_simp; with_reducible rfl); simp only [Act.put, List.setIfInBounds_toArray, List.set_cons_zero, List.set_cons_succ]) | (apply hO_ifcall; (· rfl); (· rfl); (· intro hif w hS; go_simp; exact ⟨rfl, rfl⟩); (· intro hif w hS; fail); simp only [Act.put, List.setIfInBounds_toArray, List.set_cons_zero, List.set_cons_succ]))); refine hO_nil ?_; refine forget_range 5 8 (Nat.le_of_ble_eq_true rfl) (fun junk => ?_); simp only [List.take_succ_cons, List.take_zero, List.drop_succ_cons, List.drop_zero, List.cons_append, List.nil_append, fillF, Nat.reduceAdd]; refine hK _ ?_; clear hK K
  intro w1 hX1
  have hd : (decide ((k : Int) < 0) || decide (s.tasks.length ≤ k)) = false := by simp; omega
  rw [hd]
  obtain ⟨b, o, r, rfl, hx⟩ := hr.at hk
  generalize s.tasks[k] = t at hx hu hoz hbits
  obtain ⟨n0, hn0⟩ := Int.eq_ofNat_of_zero_le hu
  obtain ⟨x0, x1, x2, x3, x4, x5, x6, x7, x8⟩ := hx.under
  rw [hn0] at x8 hoz hbits
  rw [Int.toNat_natCast] at hoz hbits
  have hcn := fun W => count2_any n0 (by omega) W
  have hpk : popN 64 n0 = popK n0 := rfl
  rw [hpk] at hcn
  generalize popK n0 = pc at hcn hoz
  have hwr : IntKind.i64.wrap (s.reload * (pc : Int)) = oz := by rw [hoz, IntKind.wrap_i64]; omega
  clear hoz hd hn0 hpk
  go_upto_region 3 with (fail)
  refine wp_region_all (S := Ext W) (by kernel_rfl) (by kernel_rfl) hX1.drew (fun K hK => ?_); (repeat (first | (apply hO_and; (· rfl); (· rfl); (· rfl); (· rfl); simp only [Act.put, List.setIfInBounds_toArray, List.set_cons_zero, List.set_cons_succ]) | (apply hO_or; (· rfl); (· rfl); (· rfl); (· rfl); simp only [Act.put, List.setIfInBounds_toArray, List.set_cons_zero, List.set_cons_succ]) | (apply hO_off; (· rfl); (· rfl); simp only [Act.put, List.setIfInBounds_toArray, List.set_cons_zero, List.set_cons_succ]) | (apply hO_val; (· intro w hS; go_simp; with_reducible rfl); (· rfl); simp only [Act.put, List.setIfInBounds_toArray, List.set_cons_zero, List.set_cons_succ]) | (apply hO_call; (· rfl); (· intro w hS; go_simp; exact ⟨rfl, rfl⟩); (· intro w hS; exact callX hS (hcn _)); simp only [Act.put, List.setIfInBounds_toArray, List.set_cons_zero, List.set_cons_succ]) | (apply hO_if; (· rfl); (· rfl); (· intro hif w hS; go_simp; with_reducible rfl); simp only [Act.put, List.setIfInBounds_toArray, List.set_cons_zero, List.set_cons_succ]) | (apply hO_ifcall; (· rfl); (· rfl); (· intro hif w hS; go_simp; exact ⟨rfl, rfl⟩); (· intro hif w hS; exact callX hS (hcn _)); simp only [Act.put, List.setIfInBounds_toArray, List.set_cons_zero, List.set_cons_succ]))); refine hO_nil ?_; refine hK _ ?_; clear hK K
  intro w2 hX2
  go_wp2_with (fail)
  go_ret
  exact ⟨rfl, hL.trans (hX2.below.mono hL.size)⟩
theorem kernelLoads_walk (v0 : Value) (s : TSet) (vl : Value) (l : List Inp) (w : World) (hv0 : ∃ u, v0 = setV s u ∧ Tasks w u s.tasks ∧ s.fit) (hl0 : SlR InpR 3 Any w vl l ∧ ∀ x ∈ l, x.ok) (hG : G25 w) :
    Calls Tryd.prog 7 #[v0, vl] w fun e w' => e = .returned (.bool true) ∧ Below w.heap.size w w' := by
  obtain ⟨u, rfl, hv, hf⟩ := hv0
  obtain ⟨hl, ho⟩ := hl0
  obtain ⟨A, c, rfl, hcc, hcm, hxx⟩ := id hv
  obtain ⟨Al, cl, rfl, hcl, hcm2⟩ := SlR.form hl
  clear hxx
  unfold maxLen at hcm hcm2
  have hX1 := (Ext.refl w).alloc (.cells #[.int .i64 s.reload, .slice A s.tasks.length c] 24)
  have hB1 := Blk.new w #[.int .i64 s.reload, .slice A s.tasks.length c] 24
  have hAll := fun w' (hx : Ext w w') => allR_any s (.slice A s.tasks.length c) w' (hv.ext hx) hf.good
  have hLong := fun w' (hx : Ext w w') => long_any (.slice Al l.length cl) l w' (SlR.ext hl fun _ _ _ h => h.ext hx)
  have hRun := fun w' (hx : Ext w w') (hb : allB s = true) (hlg : longB l = false) => runs25_any s (.slice A s.tasks.length c) (.slice Al l.length cl) l w' (hv.ext hx) hf.good (hG.ext hx).gok hb (kh_of hb hf) (SlR.ext hl fun _ _ _ h => h.ext hx) ho (by have := longB_no hlg; omega) (hG.ext hx).db
  have hKn := fun w' (hx : Ext w w') => known25_any w' (hG.ext hx)
  unfold setV at hAll hRun ⊢
  have HALL := Lib.hid hAll
  have HLONG := Lib.hid hLong
  have HRUN := Lib.hid hRun
  have HKN := Lib.hid hKn
  have HV := Lib.hid hv
  have HG := Lib.hid hG
  clear hAll hLong hRun hKn hv hl hG
  cases hd : decide (10 < (s.tasks.length : Int)) with
  | true =>
    go_enter Tryd.func7, Tryd.ntmps7
    go_wp2_with (fail)
    go_ret
    exact ⟨rfl, hX1.below⟩
  | false =>
    go_enter Tryd.func7, Tryd.ntmps7
    go_upto_region 1 with (fail)
    generalize hW : w.alloc _ = W1 at hX1 hB1 ⊢
    clear hW
    have hcB := hB1.under
    have hc1 := hB1.cell
    go_wp2_with (fail)
    refine (HALL.out W1 hX1).mono ?_
    rintro e W2 ⟨rfl, hb2⟩
    have hX12 : Ext W1 W2 := ⟨hb2⟩
    have hXW2 := hX1.trans hX12
    clear hb2 hc1
    cases hb : allB s with
    | false =>
      go_wp2_with (fail)
      go_ret
      exact ⟨rfl, hXW2.below⟩
    | true =>
      go_wp2_with (fail)
      refine (HLONG.out W2 hXW2).mono ?_
      rintro e W3 ⟨rfl, rfl⟩
      cases hlg : longB l with
      | true =>
        go_wp2_with (fail)
        go_ret
        exact ⟨rfl, hXW2.below⟩
      | false =>
        have hc2 := hcB W2 hX12
        have hrun := HRUN.out W2 hXW2 hb hlg
        have hk := kh_of hb hf
        have hev := allEv hk.kh l
        have hof := of_all hk.kh l
        have hl250 := longB_no hlg
        have hfew := runK_few hk.kh.len.2 l (initK s)
        have hfew2 : (eventsK s l).length ≤ 25000 := by
          unfold eventsK
          omega
        clear hfew
        generalize hE : eventsK s l = L at *
        have HRun := Lib.hid hrun
        have HEV := Lib.hid hev
        have HOF := Lib.hid hof
        have HB := Lib.hid hb
        clear hrun hev hof hlg hb HRUN HLONG hE
        go_wp2_with (fail)
        refine HRun.out.mono ?_
        rintro e W3 ⟨vo, rfl, hO, hX23⟩
        have hX13 := hX12.trans hX23
        have hXW3 := hX1.trans hX13
        obtain ⟨Ao, co, rfl, hco, hco2⟩ := OwnL.form hO
        unfold maxLen at hco2
        have HE := Lib.hid (OwnL.evs hO)
        have hc3 := hcB W3 hX13
        clear hO HRun hc2
        clear hc3
        have hOwn := fun w' (hx : Ext w w') (i : Nat) (hi : i < s.tasks.length) => own25_any s (.slice A s.tasks.length c) i w' (HV.out.ext hx) hk hi
        unfold setV at hOwn
        have HOWN := Lib.hid hOwn
        clear hOwn
        go_wp2_with (fail)
        go_loopw [7] (fun i wr => ∃ (k : Nat), k ≤ L.length ∧ i = .int .i64 k ∧ Ext W3 wr) (fun i _ => L.length - (intOf i).toNat)
        case atStart => exact ⟨0, by omega, rfl, Ext.refl W3⟩
        case round =>
          obtain ⟨k, hk2, rfl, hX⟩ := hrel
          by_cases hlt : k < L.length
          · obtain ⟨bl, ol, rfl, hx⟩ := HE.out.at hlt
            have hok := HEV.out.ok (evAt L k) (by rw [evAt_in hlt]; exact List.getElem_mem hlt)
            have hres := HEV.out.res (evAt L k) (by rw [evAt_in hlt]; exact List.getElem_mem hlt)
            have x1 := fun w' (h : Ext W3 w') => (hx w' h).2.1
            have x2 := fun w' (h : Ext W3 w') => (hx w' h).2.2.1
            have x3 := fun w' (h : Ext W3 w') => (hx w' h).2.2.2
            have hcW : ∀ w', Ext W3 w' → ∀ j, w'.cell? ⟨w.heap.size, j, none⟩ = #[.int .i64 s.reload, .slice A s.tasks.length c][j]? := fun w' h => hcB w' (hX13.trans h)
            clear hx
            generalize evAt L k = p at *
            obtain ⟨p0, p1, p2, p3⟩ := p
            dsimp only at x1 x2 x3 hok hres
            go_wp2_with (fail)
            cases d1 : (p1 == 6) with
            | false =>
              clear hok hres
              refine wp_region_all (S := Ext W3) (by kernel_rfl) (by kernel_rfl) hX.drew (fun K hK => ?_); (repeat (first | (apply hO_and (p := false) (q := true); (· rfl); (· rfl); (· rfl); (· rfl); simp only [Act.put, List.setIfInBounds_toArray, List.set_cons_zero, List.set_cons_succ]) | (apply hO_or (p := true) (q := true); (· rfl); (· rfl); (· rfl); (· rfl); simp only [Act.put, List.setIfInBounds_toArray, List.set_cons_zero, List.set_cons_succ]) | (apply hO_and; (· rfl); (· rfl); (· rfl); (· rfl); simp only [Act.put, List.setIfInBounds_toArray, List.set_cons_zero, List.set_cons_succ]) | (apply hO_or; (· rfl); (· rfl); (· rfl); (· rfl); simp only [Act.put, List.setIfInBounds_toArray, List.set_cons_zero, List.set_cons_succ]) | (apply hO_off; (· rfl); (· rfl); simp only [Act.put, List.setIfInBounds_toArray, List.set_cons_zero, List.set_cons_succ]) | (apply hO_un; (· rfl); (· rfl); simp only [Act.put, List.setIfInBounds_toArray, List.set_cons_zero, List.set_cons_succ]) | (apply hO_val; (· intro w hS; go_simp; with_reducible rfl); (· rfl); simp only [Act.put, List.setIfInBounds_toArray, List.set_cons_zero, List.set_cons_succ]) | (apply hO_call; (· rfl); (· intro w hS; go_simp; exact ⟨rfl, rfl⟩); (· intro w hS; fail); simp only [Act.put, List.setIfInBounds_toArray, List.set_cons_zero, List.set_cons_succ]) | (apply hO_if; (· rfl); (· rfl); (· intro hif w hS; go_simp; with_reducible rfl); simp only [Act.put, List.setIfInBounds_toArray, List.set_cons_zero, List.set_cons_succ]) | (apply hO_ifcall; (· rfl); (· rfl); (· intro hif w hS; go_simp; exact ⟨rfl, rfl⟩); (· intro hif w hS; fail); simp only [Act.put, List.setIfInBounds_toArray, List.set_cons_zero, List.set_cons_succ]))); refine hO_nil ?_; refine hK _ ?_; clear hK K
              intro w2 hX2
              go_wp2_with (fail)
              exact ⟨⟨k + 1, hlt, rfl, hX2⟩, by simp [intOf]; omega⟩
            | true =>
              have h6 : p1 = 6 := by simpa using d1
              obtain ⟨r1, r2⟩ := hres h6
              rcases hok with ⟨h10, _⟩ | ⟨_, hp0, hpn⟩
              · dsimp only at h10; omega
              · dsimp only at hp0 hpn
                obtain ⟨i, rfl⟩ := Int.eq_ofNat_of_zero_le hp0
                have hi : i < s.tasks.length := by omega
                rw [Int.toNat_natCast] at r2
                have HO := Lib.hid (fun w' (h : Ext W3 w') => HOWN.out w' (hXW3.trans h) i hi)
                generalize s.reload * (popK (s.tk i).ucb.toNat : Int) = q at r2 HO
                have d2 : decide (p3 < 0) = false := decide_eq_false (by omega)
                have d3 : decide (q < p3) = false := decide_eq_false (by omega)
                clear r1 r2 hres hp0 hpn h6
                refine wp_region_all (S := Ext W3) (by kernel_rfl) (by kernel_rfl) hX.drew (fun K hK => ?_); (repeat (first | (apply hO_and (p := false) (q := true); (· rfl); (· rfl); (· rfl); (· rfl); simp only [Act.put, List.setIfInBounds_toArray, List.set_cons_zero, List.set_cons_succ]) | (apply hO_or (p := true) (q := true); (· rfl); (· rfl); (· rfl); (· rfl); simp only [Act.put, List.setIfInBounds_toArray, List.set_cons_zero, List.set_cons_succ]) | (apply hO_and; (· rfl); (· rfl); (· rfl); (· rfl); simp only [Act.put, List.setIfInBounds_toArray, List.set_cons_zero, List.set_cons_succ]) | (apply hO_or; (· rfl); (· rfl); (· rfl); (· rfl); simp only [Act.put, List.setIfInBounds_toArray, List.set_cons_zero, List.set_cons_succ]) | (apply hO_off; (· rfl); (· rfl); simp only [Act.put, List.setIfInBounds_toArray, List.set_cons_zero, List.set_cons_succ]) | (apply hO_un; (· rfl); (· rfl); simp only [Act.put, List.setIfInBounds_toArray, List.set_cons_zero, List.set_cons_succ]) | (apply hO_val; (· intro w hS; go_simp; with_reducible rfl); (· rfl); simp only [Act.put, List.setIfInBounds_toArray, List.set_cons_zero, List.set_cons_succ]) | (apply hO_call; (· rfl); (· intro w hS; go_simp; exact ⟨rfl, rfl⟩); (· intro w hS; exact callX hS (HO.out _ hS)); simp only [Act.put, List.setIfInBounds_toArray, List.set_cons_zero, List.set_cons_succ]) | (apply hO_if; (· rfl); (· rfl); (· intro hif w hS; go_simp; with_reducible rfl); simp only [Act.put, List.setIfInBounds_toArray, List.set_cons_zero, List.set_cons_succ]) | (apply hO_ifcall; (· rfl); (· rfl); (· intro hif w hS; go_simp; exact ⟨rfl, rfl⟩); (· intro hif w hS; exact callX hS (HO.out _ hS)); simp only [Act.put, List.setIfInBounds_toArray, List.set_cons_zero, List.set_cons_succ]))); refine hO_nil ?_; refine hK _ ?_; clear hK K
                intro w2 hX2
                go_wp2_with (fail)
                exact ⟨⟨k + 1, hlt, rfl, hX2⟩, by simp [intOf]; omega⟩
          · have hke : k = L.length := by omega
            subst hke
            go_wp2_with (fail)
            refine (HKN.out wr (hXW3.trans hX)).mono ?_
            rintro e W5 ⟨rfl, hb5⟩
            go_wp2_with (fail)
            go_ret
            exact ⟨rfl, ((hXW3.trans hX).call hb5).below⟩
end Go.Proofs.YtniejidekflmiaaDoor
