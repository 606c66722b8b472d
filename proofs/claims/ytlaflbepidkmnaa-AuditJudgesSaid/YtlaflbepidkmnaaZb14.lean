/- Lemmas: law 27: known; law 27: judges. -/
import Derived.Test.YtlaflbepidkmnaaProg
import Derived.Test.YtlaflbepidkmnaaZb13
import Derived.Deep.Cut
import Derived.Lib.Hide
import Derived.OwnWalk
import Derived.BigQuiet
/- L27k -/
namespace Go.Proofs.Ytlaflbepidkmnaa
open Go.RowKit
attribute [local go_sem] setCell_twice ByteArray.toList_eq str_list Ext.alloc Ext.drew
set_option linter.unusedSimpArgs false
set_option linter.unusedVariables false
set_option maxRecDepth 100000
set_option maxHeartbeats 1600000
attribute [local irreducible] Calls
theorem ints_two' {w : World} {g : Nat} {x y : Int} {e : TypeId} (hB : Blk w g #[.int .i64 x, .int .i64 y] e) : Ints w (.slice (some ⟨g, 0, none⟩) 2 2) [x, y] := by
  refine ⟨_, _, rfl, Nat.le_refl _, by unfold maxLen; omega, fun _ => ⟨g, 0, rfl, fun i hi => ?_⟩⟩
  have hc := hB.cell
  have : i = 0 ∨ i = 1 := by simp at hi; omega
  rcases this with rfl | rfl
  · exact hc 0
  · exact hc 1
theorem known27_any (w : World) :
    Calls Try.prog 12 #[] w fun e w' => e = .returned (.bool true) ∧ Ext w w' := by
  have hR := fun W => ran_au (.slice none 0 0) [] 2 W (SlR.nil _ _ _ _) (by omega) (by simp) (fun e he => by cases he)
  have hq : ∀ i, i < kS25.tasks.length → 0 ≤ (kS25.tk i).q ∧ (kS25.tk i).q ≤ 10000 := fun i hi => by
    obtain rfl : i = 0 := by simp [kS25] at hi; exact hi
    decide
  have hF0 := fun v W (hv : Tasks W v kS25.tasks) => auFair_any kS25 v (.slice none 0 0) [] W hv hq (SlR.nil _ _ _ _) (by simp) (fun e he => by cases he) (fun e he => by cases he) (fun e he => by cases he) List.Pairwise.nil
  have hF1 := fun v va W (hv : Tasks W v kS25.tasks) (ha : Evs W va [⟨0, 5, 0, 0⟩]) => auFair_any kS25 v va [⟨0, 5, 0, 0⟩] W hv hq ha (by simp) (fun e he => by simp at he; subst he; unfold evIn; decide) (fun e he _ => by simp at he; subst he; decide) (fun e he h => by simp at he; subst he; cases h) (List.pairwise_singleton _ _)
  have e0 : fairB kS25 [] = true := by decide
  have e1 : fairB kS25 [⟨0, 5, 0, 0⟩] = false := by decide
  have e2 : (ranF ((List.range 2).map (tickL []))).1 = [-1, -1] := by decide
  rw [e2] at hR
  rw [e0] at hF0
  rw [e1] at hF1
  have HR := Lib.hid hR
  have HF0 := Lib.hid hF0
  have HF1 := Lib.hid hF1
  clear hR hF0 hF1 hq e0 e1 e2
  go_enter Try.func12, Try.ntmps12
  go_upto_region 2 with (fail)
  generalize hW : World.alloc _ (.cells _ 24) = W
  have hX : Ext w W := by rw [← hW]; exact ((((Ext.refl w).alloc _).alloc _).alloc _)
  have hI : Blk W w.heap.size #[.int .i64 2] 2 := by rw [← hW]; exact ((Blk.new _ _ _).alloc _).alloc _
  have hT : Blk W (w.heap.size + 1) #[.string (str [97]), .int .i64 5, .int .i64 5, .int .i64 0, .int .i64 0, .int .i64 0, .slice (some ⟨w.heap.size, 0, none⟩) 1 1, .int .u64 0, .int .u64 0] 34 := by rw [← hW]; exact (Blk.new_at _ _ _ _ (by simp)).alloc _
  have hS : Blk W (w.heap.size + 1 + 1) #[.int .i64 0, .slice (some ⟨w.heap.size + 1, 0, none⟩) 1 1] 24 := by rw [← hW]; exact Blk.new_at _ _ _ _ (by simp)
  have hv : Tasks W (.slice (some ⟨w.heap.size + 1, 0, none⟩) 1 1) kS25.tasks := tasks_one' (t := kt25) hT (ints_one' hI)
  have HV := Lib.hid hv
  have HS := Lib.hid hS
  clear hW hI hT hS hv
  go_wp2_with (fail)
  refine (HR.out W).mono ?_
  rintro _ w1 ⟨v1, rfl, hO1, hX1⟩
  obtain ⟨A1, c1, rfl, _, _⟩ := OwnL.form hO1
  have HO1 := Lib.hid hO1
  clear hO1
  go_wp2_with (fail)
  refine (ints2_any _ _ [-1, -1] [-1, -1] _ (RowP.ints (OwnL.alloc HO1.out _)) (ints_two' (Blk.new _ _ _))).mono ?_
  rintro _ w2 ⟨rfl, hb2⟩
  rw [decide_eq_true rfl]
  have hX2 : Ext W w2 := (hX1.alloc _).call hb2
  have hc2 := (HS.out.ext hX2).cell
  have hF2 := HF0.out _ w2 (HV.out.ext hX2)
  unfold setV at hF2
  have HF2 := Lib.hid hF2
  clear hF2
  go_wp2_with (fail)
  refine HF2.out.mono ?_
  rintro _ w3 ⟨rfl, hX3⟩
  have hX23 := hX2.trans hX3
  have hc3 := (HS.out.ext hX23).cell
  clear hc2
  have hF3 := fun va => HF1.out (.slice (some ⟨w.heap.size + 1, 0, none⟩) 1 1) va
  unfold setV at hF3
  have HF3 := Lib.hid hF3
  clear hF3
  go_wp2_with (fail)
  refine (HF3.out _ _ (HV.out.ext (hX23.alloc _)) (evs_blk' (L := [⟨0, 5, 0, 0⟩]) (Blk.new _ _ _) rfl (by decide))).mono ?_
  rintro _ w4 ⟨rfl, hX4⟩
  go_wp2_with (fail)
  go_ret
  exact ⟨rfl, (hX.trans (hX23.alloc _)).trans hX4⟩
end Go.Proofs.Ytlaflbepidkmnaa
/- L27j -/
namespace Go.Proofs.Ytlaflbepidkmnaa
open Go.RowKit
attribute [local go_sem] setCell_twice ByteArray.toList_eq str_list Ext.alloc Ext.drew
set_option linter.unusedSimpArgs false
set_option linter.unusedVariables false
set_option maxRecDepth 100000
set_option maxHeartbeats 1600000
attribute [local irreducible] Calls

/-- what the events of a run are, for the audit -/
structure RunEv (s : TSet) (L : List Ev) : Prop where
  few : L.length ≤ 1000000
  evin : ∀ e ∈ L, evIn e
  pre : preIn s.tasks.length L
  job : jobIn s.tasks.length L
  adm : ∀ e ∈ L, e.kind = 1 → 0 ≤ e.task
  sorted : L.Pairwise fun a b => a.tick ≤ b.tick
  fair : fairB s L = true
theorem runEv {s : TSet} (hk : KH2 s) {l : List Inp} (hl : l.length ≤ 250) : RunEv s (eventsK s l) := by
  have hev := allEv hk.kh l
  have hfew := runK_few hk.kh.len.2 l (initK s)
  have hn := hk.kh.len.2
  have hok : ∀ e ∈ eventsK s l, okEv s.tasks.length e := hev.ok
  have hbt : ∀ e ∈ eventsK s l, 1 ≤ e.kind ∧ e.kind ≤ 10 ∧ ((e.kind = 10 ∧ e.task = -1) ∨ (e.kind ≤ 9 ∧ 0 ≤ e.task ∧ e.task < s.tasks.length)) := fun e he => by
    rcases hok e he with h | h
    · exact ⟨by omega, by omega, .inl ⟨by omega, by omega⟩⟩
    · exact ⟨by omega, by omega, .inr ⟨by omega, by omega⟩⟩
  refine ⟨by unfold eventsK; omega, fun e he => ?_, fun e he h => ?_, fun e he h => ?_, fun e he h => ?_, hev.sorted, fair_of hev.fair (fun e he => (hev.tick e he).1) hev.sorted⟩
  · have h1 := hev.tick e he
    have h2 := hbt e he
    refine ⟨h1.1, by omega, by omega, by omega, by omega, by omega⟩
  · have h2 := hbt e he
    omega
  · have h2 := hbt e he
    omega
  · have h2 := hbt e he
    omega
theorem auditJudges_walk (v0 : Value) (s : TSet) (vl : Value) (l : List Inp) (vr : Value) (r : List Int) (w : World) (hv0 : ∃ u, v0 = setV s u ∧ Tasks w u s.tasks ∧ s.fit) (hl0 : SlR InpR 3 Any w vl l ∧ ∀ x ∈ l, x.ok) (hr0 : Ints w vr r ∧ ∀ x ∈ r, (Lit.int .i64 x).wf = true) :
    Calls Try.prog 4 #[v0, vl, vr] w fun e w' => e = .returned (.bool true) ∧ Below w.heap.size w w' := by
  obtain ⟨u, rfl, hv, hf⟩ := hv0
  obtain ⟨hl, ho⟩ := hl0
  obtain ⟨hr, hrw⟩ := hr0
  obtain ⟨A, c, rfl, hcc, hcm, hxx⟩ := id hv
  obtain ⟨Al, cl, rfl, hcl, hcm2⟩ := SlR.form hl
  obtain ⟨Ar, cr, rfl, hcr1, hcr2, hxr⟩ := id hr
  clear hxx hxr
  unfold maxLen at hcm hcm2 hcr2
  have hX1 := (Ext.refl w).alloc (.cells #[.int .i64 s.reload, .slice A s.tasks.length c] 24)
  have hB1 := Blk.new w #[.int .i64 s.reload, .slice A s.tasks.length c] 24
  have hAll := fun w' (hx : Ext w w') => allR_any s (.slice A s.tasks.length c) w' (hv.ext hx) hf.good
  have hLong := fun w' (hx : Ext w w') => long27_any (.slice Al l.length cl) l w' (SlR.ext hl fun _ _ _ h => h.ext hx)
  have hRun := fun w' (hx : Ext w w') (hb : allB s = true) (hlg : longB l = false) => events27_any s (.slice A s.tasks.length c) (.slice Al l.length cl) l w' (hv.ext hx) hf hb (kh_of hb hf) (SlR.ext hl fun _ _ _ h => h.ext hx) ho (by have := longB_no hlg; omega)
  unfold setV at hAll hRun ⊢
  have HALL := Lib.hid hAll
  have HLONG := Lib.hid hLong
  have HRUN := Lib.hid hRun
  have HV := Lib.hid hv
  have HI := Lib.hid hr
  clear hAll hLong hRun hv hl hr hrw
  cases hd : decide (10 < (s.tasks.length : Int)) with
  | true =>
    go_enter Try.func4, Try.ntmps4
    go_wp2_with (fail)
    go_ret
    exact ⟨rfl, hX1.below⟩
  | false =>
    go_enter Try.func4, Try.ntmps4
    go_upto_region 1 with (fail)
    generalize hW : w.alloc _ = W1 at hX1 hB1 ⊢
    clear hW
    have hcB := hB1.under
    have hc1 := hB1.cell
    go_wp2_with (fail)
    refine (HALL.out W1 hX1).mono ?_
    rintro e W2 ⟨rfl, hb2⟩
    have hX12 : Ext W1 W2 := ⟨hb2⟩
    have hXW2 := hX1.trans hX12
    clear hb2 hc1
    cases hb : allB s with
    | false =>
      go_wp2_with (fail)
      go_ret
      exact ⟨rfl, hXW2.below⟩
    | true =>
      go_wp2_with (fail)
      refine (HLONG.out W2 hXW2).mono ?_
      rintro e W3 ⟨rfl, rfl⟩
      cases hlg : longB l with
      | true =>
        go_wp2_with (fail)
        go_ret
        exact ⟨rfl, hXW2.below⟩
      | false =>
        have hc2 := hcB W2 hX12
        cases hlen : ((r.length : Int) == (s.tasks.length : Int)) with
        | false =>
          go_wp2_with (fail)
          go_ret
          exact ⟨rfl, hXW2.below⟩
        | true =>
          have hle : r.length = s.tasks.length := by have := eq_of_beq hlen; omega
          have HLE := Lib.hid hle
          have hrun := HRUN.out W2 hXW2 hb hlg
          have hk := kh_of hb hf
          have hre := runEv hk (longB_no hlg)
          have hl250 := longB_no hlg
          have HRUN2 := Lib.hid hrun
          have HRE := Lib.hid hre
          have HK := Lib.hid hk
          clear hrun hre hk hlg hb HRUN HLONG hle
          go_wp2_with (fail)
          go_loopw [7] (fun i wr => ∃ k : Nat, k ≤ r.length ∧ i = .int .i64 k ∧ Hid (∀ x ∈ r.take k, 0 ≤ x ∧ x ≤ 1099511627776) ∧ wr = W2) (fun i _ => r.length - (intOf i).toNat)
          case atStart => exact ⟨0, Nat.zero_le _, rfl, Lib.hid (fun x hx => by cases hx), rfl⟩
          case round =>
            obtain ⟨k, hk, rfl, hall, rfl⟩ := hrel
            by_cases hlt : k < r.length
            · obtain ⟨b, o, rfl, hx⟩ := (HI.out.ext hXW2).at hlt
              have hx0 := hx wr (Ext.refl _)
              have hsn : ∀ x ∈ r.take (k + 1), x ∈ r.take k ∨ x = r[k] := fun x hx => by
                rw [List.take_succ_eq_append_getElem hlt] at hx
                exact mem_snoc hx
              have HSN := Lib.hid hsn
              clear hsn hx
              generalize r[k] = x at *
              cases h0 : decide (x < 0) with
              | true =>
                go_wp2_with (fail)
                go_ret
                exact ⟨rfl, hXW2.below⟩
              | false =>
                cases h1 : decide (1099511627776 < x) with
                | true =>
                  go_wp2_with (fail)
                  go_ret
                  exact ⟨rfl, hXW2.below⟩
                | false =>
                  have hall2 := Lib.hid (show ∀ y ∈ r.take (k + 1), 0 ≤ y ∧ y ≤ 1099511627776 from fun y hy => by
                    rcases HSN.out y hy with h | rfl
                    · exact hall.out y h
                    · simp at h0 h1; omega)
                  go_wp2_with (fail)
                  exact ⟨⟨k + 1, hlt, rfl, hall2, (by first | trivial | rfl)⟩, by simp [intOf]; omega⟩
            · have hke : k = r.length := by omega
              subst hke
              have hbd := hall.out
              rw [List.take_length] at hbd
              have HBD := Lib.hid hbd
              clear hbd
              go_wp2_with (fail)
              refine HRUN2.out.mono ?_
              rintro e W3 ⟨vo, rfl, hO, hX23⟩
              have hXW3 := hXW2.trans hX23
              obtain ⟨Ao, co, rfl, hco, hco2⟩ := OwnL.form hO
              have HE := Lib.hid (OwnL.evs hO)
              have hc3 := hcB W3 (hX12.trans hX23)
              generalize eventsK s l = L at *
              have hM1 := auMet_any (.slice Ar r.length cr) (.slice Ao L.length co) r L l.length W3 (HI.out.ext hXW3) HBD.out HE.out HRE.out.few HRE.out.evin (by rw [HLE.out]; exact HRE.out.job)
              have hM2 := fun w' (hx : Ext W3 w') => met27_any (.slice Ar r.length cr) (.slice Ao L.length co) r L l.length w' (HI.out.ext (hXW3.trans hx)) HBD.out (HE.out.ext hx) HRE.out.few HRE.out.evin (by rw [HLE.out]; exact HRE.out.job)
              have hF := fun w' (hx : Ext W3 w') => auFair_any s (.slice A s.tasks.length c) (.slice Ao L.length co) L w' (HV.out.ext (hXW3.trans hx)) HK.out.q (HE.out.ext hx) HRE.out.few HRE.out.evin HRE.out.pre HRE.out.adm HRE.out.sorted
              rw [HRE.out.fair] at hF
              unfold setV at hF
              have HM1 := Lib.hid hM1
              have HM2 := Lib.hid hM2
              have HF := Lib.hid hF
              clear hM1 hM2 hF hO hc2
              generalize metB r L l.length = mb at *
              go_wp2_with (fail)
              refine HM1.out.mono ?_
              rintro _ W4 ⟨rfl, hX4⟩
              have hc4 := hcB W4 (hX12.trans (hX23.trans hX4))
              clear hc3
              go_wp2_with (fail)
              refine (HM2.out W4 hX4).mono ?_
              rintro _ W5 ⟨rfl, hX5⟩
              have hX45 := hX4.trans hX5
              have hc5 := hcB W5 (hX12.trans (hX23.trans hX45))
              clear hc4
              have hmm : (mb == mb) = true := by simp
              go_wp2_with (fail)
              refine (HF.out W5 hX45).mono ?_
              rintro _ W6 ⟨rfl, hX6⟩
              clear hc5
              go_wp2_with (fail)
              refine (known27_any W6).mono ?_
              rintro _ W7 ⟨rfl, hX7⟩
              go_wp2_with (fail)
              go_ret
              exact ⟨rfl, (hXW3.trans (hX45.trans (hX6.trans hX7))).below⟩
end Go.Proofs.Ytlaflbepidkmnaa
