/- law 25: names do not matter, nor cache sets, where loading takes nothing. -/
import Derived.Test.YtniejidekflmiaaDoorProg
import Derived.Test.YtniejidekflmiaaDoorBase
import Derived.Test.YtniejidekflmiaaDoorHeldX
import Derived.Test.YtniejidekflmiaaDoorHeldN
import Derived.Test.YtniejidekflmiaaDoorApp
import Derived.Test.YtniejidekflmiaaDoorExt0
import Derived.Test.YtniejidekflmiaaDoorChg
import Derived.Test.YtniejidekflmiaaDoorKM
import Derived.Test.YtniejidekflmiaaDoorKP1
import Derived.Test.YtniejidekflmiaaDoorKO
import Derived.Test.YtniejidekflmiaaDoorOpenI
import Derived.Test.YtniejidekflmiaaDoorKker
import Derived.Test.YtniejidekflmiaaDoorTskZ
import Derived.Test.YtniejidekflmiaaDoorTskA
import Derived.Test.YtniejidekflmiaaDoorSetO
import Derived.Test.YtniejidekflmiaaDoorKch
import Derived.Test.YtniejidekflmiaaDoorEvO
import Derived.Test.YtniejidekflmiaaDoorKrn
import Derived.Test.YtniejidekflmiaaDoorKN
import Derived.Test.YtniejidekflmiaaDoorTskN
import Derived.Test.YtniejidekflmiaaDoorMapS
import Derived.Deep.Cut
import Derived.Lib.Hide
import Derived.OwnWalk
import Derived.BigQuiet
import Derived.Laws.OwnMore
import Derived.Laws.MakeOwn
import Derived.Laws.IdiomStrings
namespace Go.Proofs.YtniejidekflmiaaDoor
open Go.RowKit
attribute [local go_sem] setCell_twice ByteArray.toList_eq str_list Ext.alloc Ext.drew
set_option linter.unusedSimpArgs false
set_option linter.unusedVariables false
set_option maxRecDepth 100000
set_option maxHeartbeats 1600000
attribute [local irreducible] Calls


def nmB (i : Nat) : UInt8 := UInt8.ofNat (122 - i)
def nmT (i : Nat) (t : Tsk) : Tsk := { t with name := str [nmB i], ecb := 0, ucb := 0 }
def nm1 (i : Nat) (t : Tsk) : Tsk := { t with name := str [nmB i] }
def nm2 (i : Nat) (t : Tsk) : Tsk := { t with name := str [nmB i], ecb := 0 }
def xS (s : TSet) : TSet := ⟨0, s.tasks⟩
def ysL (s : TSet) (k : Nat) : List Tsk := s.tasks.mapIdx fun i t => if i < k then nmT i t else t
def yS (s : TSet) : TSet := ⟨0, ysL s s.tasks.length⟩
theorem nmB_name : ∀ i : Nat, i < 8 → nameB [nmB i] = true := by decide +kernel
theorem nmB_ne : ∀ i : Nat, i < 8 → ∀ j : Nat, j < 8 → i ≠ j → nmB i ≠ nmB j := by decide +kernel
theorem nmB_nat : ∀ i : Nat, i < 8 → (nmB i).toNat = 122 - i := by decide +kernel
theorem ysL_len (s : TSet) (k : Nat) : (ysL s k).length = s.tasks.length := by simp [ysL]
theorem ysL_at (s : TSet) (k : Nat) {i : Nat} (h : i < (ysL s k).length) : (ysL s k)[i] = if i < k then nmT i (s.tasks[i]'(by rw [ysL_len] at h; exact h)) else s.tasks[i]'(by rw [ysL_len] at h; exact h) := by simp [ysL]
theorem ysL_zero (s : TSet) : ysL s 0 = s.tasks := by
  refine List.ext_getElem (ysL_len s 0) fun i h1 h2 => ?_
  rw [ysL_at, if_neg (by omega)]
theorem ysL_step (s : TSet) {k : Nat} (h : k < s.tasks.length) : (ysL s k).set k (nmT k s.tasks[k]) = ysL s (k + 1) := by
  refine List.ext_getElem (by simp [ysL_len]) fun i h1 h2 => ?_
  rw [List.getElem_set]
  by_cases e : k = i
  · subst e
    rw [if_pos rfl, ysL_at s (k + 1) h2, if_pos (by omega)]
  · rw [if_neg e, ysL_at s (k + 1) h2, ysL_at s k (by rw [ysL_len] at h2 ⊢; exact h2)]
    by_cases e2 : i < k
    · rw [if_pos e2, if_pos (by omega)]
    · rw [if_neg e2, if_neg (by omega)]
theorem yS_at (s : TSet) {k : Nat} (hk : k < (yS s).tasks.length) (hk' : k < s.tasks.length) : (yS s).tasks[k] = nmT k s.tasks[k] := by
  have := ysL_at s s.tasks.length (show k < (ysL s s.tasks.length).length by rw [ysL_len]; exact hk')
  rw [if_pos hk'] at this
  exact this
theorem okL_new : ∀ (ts : List Tsk) (i : Nat) (seen : List (List UInt8)), (∀ k (h : k < ts.length), isB ts[k] (i + k : Nat) = true) → (∀ k (h : k < ts.length), ts[k].name.data.toList ∉ seen) → (∀ j k (hj : j < ts.length) (hk : k < ts.length), j ≠ k → ts[j].name.data.toList ≠ ts[k].name.data.toList) → okL ts i seen = true
  | [], _, _, _, _, _ => rfl
  | t :: ts, i, seen, h1, h2, h3 => by
    simp only [okL, Bool.and_eq_true]
    have a1 := h1 0 (by simp)
    have a2 := h2 0 (by simp)
    simp only [List.getElem_cons_zero, Nat.add_zero] at a1 a2
    refine ⟨a1, by simp [a2], okL_new ts (i + 1) _ (fun k hk => ?_) (fun k hk hm => ?_) (fun j k hj hk hne => ?_)⟩
    · have := h1 (k + 1) (by simpa using hk)
      simp only [List.getElem_cons_succ] at this
      rw [show i + (k + 1) = i + 1 + k by omega] at this
      exact this
    · rcases List.mem_append.1 hm with hm | hm
      · have := h2 (k + 1) (by simpa using hk)
        simp only [List.getElem_cons_succ] at this
        exact this hm
      · have := h3 (k + 1) 0 (by simpa using hk) (by simp) (by omega)
        simp only [List.getElem_cons_succ, List.getElem_cons_zero] at this
        exact this (List.mem_singleton.1 hm)
    · have := h3 (j + 1) (k + 1) (by simpa using hj) (by simpa using hk) (by omega)
      simpa using this
theorem xS_all {s : TSet} (h : allB s = true) : allB (xS s) = true := by
  simp only [allB, Bool.and_eq_true] at h ⊢
  exact ⟨⟨by show decide ((0 : Int) ≥ 0) = true; rfl, by show decide ((0 : Int) ≤ 10000) = true; rfl⟩, h.2⟩
theorem xS_fit {s : TSet} (h : s.fit) : (xS s).fit := ⟨by rfl, h.2.1, h.2.2⟩
theorem isB_nm {t : Tsk} {p : Int} {i : Nat} (hi : i < 8) (h : isB t p = true) : isB (nmT i t) p = true := by
  simp only [isB, Bool.and_eq_true] at h ⊢
  obtain ⟨_, h1, h2, h3, h4, h5, _⟩ := h
  exact ⟨nmB_name i hi, h1, h2, h3, h4, h5, by show (bits BinOp.andNot IntKind.u64 0 0 == 0) = true; decide⟩
theorem yS_all {s : TSet} (h : allB s = true) : allB (yS s) = true := by
  simp only [allB, Bool.and_eq_true, decide_eq_true_eq] at h ⊢
  obtain ⟨_, h3, h4, h5⟩ := h
  have hl : (yS s).tasks.length = s.tasks.length := ysL_len s _
  have hat : ∀ k (hk : k < (yS s).tasks.length), (yS s).tasks[k] = nmT k (s.tasks[k]'(by rw [hl] at hk; exact hk)) := fun k hk => yS_at s hk (by rw [hl] at hk; exact hk)
  refine ⟨⟨by show (0 : Int) ≥ 0; omega, by show (0 : Int) ≤ 10000; omega⟩, by rw [hl]; exact h3, by rw [hl]; exact h4, okL_new _ 0 [] (fun k hk => ?_) (fun k hk hm => by cases hm) (fun j k hj hk hne he => ?_)⟩
  · rw [hat k hk, Nat.zero_add]
    have := okL_each' s.tasks 0 [] h5 k (by rw [hl] at hk; exact hk)
    rw [Nat.zero_add] at this
    exact isB_nm (by omega) this
  · rw [hat j hj, hat k hk] at he
    have he2 : [nmB j] = [nmB k] := he
    injection he2 with he2
    exact nmB_ne j (by omega) k (by omega) hne he2
theorem yS_fit {s : TSet} (h : s.fit) : (yS s).fit := by
  have hl : (yS s).tasks.length = s.tasks.length := ysL_len s _
  refine ⟨by rfl, by rw [hl]; exact h.2.1, fun t ht => ?_⟩
  obtain ⟨k, hk, rfl⟩ := List.mem_iff_getElem.1 ht
  have hk' : k < s.tasks.length := by rw [hl] at hk; exact hk
  rw [yS_at s hk hk']
  obtain ⟨_, h2, h3⟩ := h.2.2 _ (List.getElem_mem hk')
  obtain ⟨g1, g2, g3, g4, g5, g6, g7, g8⟩ := h3
  exact ⟨by show 1 ≤ _; omega, h2, g1, g2, g3, g4, g5, by rfl, by rfl, g8⟩
theorem sim_xy (s : TSet) : SimS (xS s) (yS s) := by
  have hl : (yS s).tasks.length = s.tasks.length := ysL_len s _
  have ht : ∀ i, (i < s.tasks.length ∧ ∃ t, (xS s).tk i = t ∧ (yS s).tk i = nmT i t) ∨ (xS s).tk i = (yS s).tk i := fun i => by
    by_cases h : i < s.tasks.length
    · left
      refine ⟨h, s.tasks[i], tk_in (xS s) h, ?_⟩
      rw [tk_in (yS s) (by rw [hl]; exact h), yS_at s _ h]
    · right
      unfold TSet.tk
      simp only [List.getD]
      rw [List.getElem?_eq_none (show (xS s).tasks.length ≤ i from Nat.le_of_not_lt h), List.getElem?_eq_none (by rw [hl]; omega)]
  have hf : ∀ {β : Type} (f : Tsk → β), (∀ i t, f (nmT i t) = f t) → ∀ i, f ((xS s).tk i) = f ((yS s).tk i) := fun f hf i => by
    rcases ht i with ⟨_, t, h1, h2⟩ | h
    · rw [h1, h2, hf]
    · rw [h]
  exact ⟨rfl, rfl, hl.symm, hf (·.T) fun _ _ => rfl, hf (·.D) fun _ _ => rfl, hf (·.mode) fun _ _ => rfl, hf (·.q) fun _ _ => rfl, hf (·.theta) fun _ _ => rfl, hf (·.regs) fun _ _ => rfl⟩
theorem kernelNames_walk (v0 : Value) (s : TSet) (vl : Value) (l : List Inp) (w : World) (hv0 : ∃ u, v0 = setV s u ∧ Tasks w u s.tasks ∧ s.fit) (hl0 : SlR InpR 3 Any w vl l ∧ ∀ x ∈ l, x.ok) (hG : G25 w) :
    Calls Tryd.prog 10 #[v0, vl] w fun e w' => e = .returned (.bool true) ∧ Below w.heap.size w w' := by
  obtain ⟨u, rfl, hv, hf⟩ := hv0
  obtain ⟨hl, ho⟩ := hl0
  obtain ⟨A, c, rfl, hcc, hcm, hxx⟩ := id hv
  obtain ⟨Al, cl, rfl, hcl, hcm2⟩ := SlR.form hl
  clear hxx
  unfold maxLen at hcm hcm2
  have hX1 := (Ext.refl w).alloc (.cells #[.int .i64 s.reload, .slice A s.tasks.length c] 24)
  have hB1 := Blk.new w #[.int .i64 s.reload, .slice A s.tasks.length c] 24
  have hAll := fun w' (hx : Ext w w') => allR_any s (.slice A s.tasks.length c) w' (hv.ext hx) hf.good
  have hLong := fun w' (hx : Ext w w') => long_any (.slice Al l.length cl) l w' (SlR.ext hl fun _ _ _ h => h.ext hx)
  have hRun := fun w' (hx : Ext w w') (hb : allB s = true) (hlg : longB l = false) => runs25_any s (.slice A s.tasks.length c) (.slice Al l.length cl) l w' (hv.ext hx) hf.good (hG.ext hx).gok hb (kh_of hb hf) (SlR.ext hl fun _ _ _ h => h.ext hx) ho (by have := longB_no hlg; omega) (hG.ext hx).db
  have hKn := fun w' (hx : Ext w w') => known25_any w' (hG.ext hx)
  unfold setV at hAll hRun ⊢
  have HALL := Lib.hid hAll
  have HLONG := Lib.hid hLong
  have HRUN := Lib.hid hRun
  have HKN := Lib.hid hKn
  have HV := Lib.hid hv
  have HG := Lib.hid hG
  have hG0 := HG
  have HLL := Lib.hid hl
  clear hAll hLong hRun hKn hv hl hG
  cases hd : decide (10 < (s.tasks.length : Int)) with
  | true =>
    go_enter Tryd.func10, Tryd.ntmps10
    go_wp2_with (fail)
    go_ret
    exact ⟨rfl, hX1.below⟩
  | false =>
    go_enter Tryd.func10, Tryd.ntmps10
    go_upto_region 1 with (fail)
    generalize hW : w.alloc _ = W1 at hX1 hB1 ⊢
    clear hW
    have hcB := hB1.under
    have hc1 := hB1.cell
    go_wp2_with (fail)
    refine (HALL.out W1 hX1).mono ?_
    rintro e W2 ⟨rfl, hb2⟩
    have hX12 : Ext W1 W2 := ⟨hb2⟩
    have hXW2 := hX1.trans hX12
    clear hb2 hc1
    cases hb : allB s with
    | false =>
      go_wp2_with (fail)
      go_ret
      exact ⟨rfl, hXW2.below⟩
    | true =>
      go_wp2_with (fail)
      refine (HLONG.out W2 hXW2).mono ?_
      rintro e W3 ⟨rfl, rfl⟩
      cases hlg : longB l with
      | true =>
        go_wp2_with (fail)
        go_ret
        exact ⟨rfl, hXW2.below⟩
      | false =>
        have hc2 := hcB W2 hX12
        have hn8 := (kh_of hb hf).kh.len
        have hl250 := longB_no hlg
        have hxa := xS_all hb
        have hya := yS_all hb
        have hxf := xS_fit hf
        have hyf := yS_fit hf
        have hsim := sim_events (sim_xy s) l
        have HRX := Lib.hid fun (v : Value) w' (hx : Ext w w') (hv : Tasks w' v (xS s).tasks) => runs25_any (xS s) v (.slice Al l.length cl) l w' hv hxf.good (hG0.out.ext hx).gok hxa (kh_of hxa hxf) (SlR.ext HLL.out fun _ _ _ h => h.ext hx) ho (by omega) (hG0.out.ext hx).db
        have HRY := Lib.hid fun (v : Value) w' (hx : Ext w w') (hv : Tasks w' v (yS s).tasks) => runs25_any (yS s) v (.slice Al l.length cl) l w' hv hyf.good (hG0.out.ext hx).gok hya (kh_of hya hyf) (SlR.ext HLL.out fun _ _ _ h => h.ext hx) ho (by omega) (hG0.out.ext hx).db
        rw [hsim] at HRX
        have HXF := Lib.hid hxf
        have HLG := Lib.hid hlg
        clear hxa hya hxf hyf hsim hlg HRUN HLONG hb
        go_wp2_with (fail)
        refine (put_any s _ _ (HV.out.ext hXW2) hf).mono ?_
        rintro e W3 ⟨v5, ps, rfl, hP5, hps5, hb3⟩
        have hXW3 := hXW2.trans ⟨hb3⟩
        have hT5 := hP5.tasks
        rw [hps5] at hT5
        obtain ⟨A5, c5, hv5, _, _⟩ := OwnL.form hP5.1
        have hl5 : ps.length = s.tasks.length := by rw [← hps5, List.length_map]
        rw [hl5] at hv5
        subst hv5
        unfold setV
        dsimp only
        clear hc2 hP5 hps5 hl5
        go_upto_region 4 with (fail)
        have hB5 := Blk.new W3 #[.int .i64 s.reload, .slice A5 s.tasks.length c5] 24
        have hE4 := (Ext.refl W3).alloc (.cells #[.int .i64 s.reload, .slice A5 s.tasks.length c5] 24)
        have hg5 : W3.heap.size ≤ W3.heap.size := Nat.le_refl _
        generalize W3.alloc _ = W4 at hB5 hE4 ⊢
        obtain ⟨g5, hq5⟩ : ∃ g, g = W3.heap.size := ⟨_, rfl⟩
        rw [← hq5] at hB5 ⊢
        have hE5 := hE4.set (g := g5) (i := 0) (by omega) (.int .i64 0)
        have hB5f := hB5.free
        have hB5c := hB5.cell
        have hB6 := hB5.set 0 (.int .i64 0)
        simp only [List.setIfInBounds_toArray, List.set_cons_zero, List.set_cons_succ] at hB6
        clear hq5 hg5
        go_upto_region 5 with (fail)
        clear hB5 hB5f hB5c hE4
        generalize World.setCell _ _ _ = W5 at hE5 hB6 ⊢
        have hXW5 := hXW3.trans hE5
        have hc5 := hB6.cell
        have hu5 := hB6.under
        have hput := put_any (xS s) (.slice A5 s.tasks.length c5) W5 (hT5.ext hE5) HXF.out
        have hT55 := Lib.hid (hT5.ext hE5)
        unfold setV at hput
        rw [show (xS s).reload = 0 from rfl] at hput
        have HPUT := Lib.hid hput
        clear hput hB6 hT5
        go_wp2_with (fail)
        refine HPUT.out.mono ?_
        rintro e W6 ⟨v6, ps6, rfl, hP6, hps6, hb6⟩
        have hnl : ps6.length = s.tasks.length := by
          have := congrArg List.length hps6
          rw [List.length_map] at this
          exact this
        obtain ⟨g, c6, rfl, hg1, hg2⟩ := hP6.head (by intro e; rw [e] at hnl; simp at hnl; omega)
        dsimp only
        clear hc5 HPUT
        go_upto_region 6 with (fail)
        have hBS : BoxS W5 W6.heap.size #[.int .i64 0, .slice (some ⟨g, 0, none⟩) ps6.length c6] 24 (W6.alloc (.cells #[.int .i64 0, .slice (some ⟨g, 0, none⟩) ps6.length c6] 24)) := ⟨(Ext.mk hb6).alloc _, Blk.new _ _ _⟩
        have hP := hP6.ext ((Ext.refl W6).alloc (.cells #[.int .i64 0, .slice (some ⟨g, 0, none⟩) ps6.length c6] 24))
        have hne : W6.heap.size ≠ g := Nat.ne_of_gt hg2
        have hps7 : ps6.map (·.1) = ysL s 0 := by rw [ysL_zero]; exact hps6
        rw [hnl] at hBS hP ⊢
        generalize W6.alloc _ = W7 at hBS hP ⊢
        generalize W6.heap.size = gb at hBS hne ⊢
        have HBS := Lib.hid hBS
        have HP := Lib.hid hP
        have HPS := Lib.hid hps7
        clear hBS hP hps7 hP6 hps6 hnl hg2
        go_wp2_with (fail)
        go_loopw [7] (fun i wr => ∃ (k : Nat) (ps : List (Tsk × Value)), k ≤ s.tasks.length ∧ i = .int .i64 k ∧ PutOwn wr W5.heap.size (.slice (some ⟨g, 0, none⟩) s.tasks.length c6) ps ∧ Hid (ps.map (·.1) = ysL s k) ∧ BoxS W5 gb #[.int .i64 0, .slice (some ⟨g, 0, none⟩) s.tasks.length c6] 24 wr) (fun i _ => s.tasks.length - (intOf i).toNat)
        case atStart => exact ⟨0, ps6, by omega, rfl, HP.out, HPS.out, HBS.out⟩
        case round =>
          obtain ⟨k, ps, hk2, rfl, hP, hps, hBS⟩ := hrel
          clear HP HPS HBS
          have hnl : ps.length = s.tasks.length := by
            have := congrArg List.length hps.out
            rw [List.length_map, ysL_len] at this
            exact this
          by_cases hlt : k < s.tasks.length
          · have hkp : k < ps.length := by omega
            obtain ⟨⟨t0, r0⟩, hp0⟩ : ∃ p, ps[k] = p := ⟨_, rfl⟩
            have hk8 : k < 8 := by omega
            have ht0 : t0 = s.tasks[k] := by
              have h1 : (ps.map (·.1))[k]'(by simpa using hkp) = t0 := by rw [List.getElem_map, hp0]
              have h2 : (ps.map (·.1))[k]'(by simpa using hkp) = (ysL s k)[k]'(by rw [ysL_len]; exact hlt) := by simp only [hps.out]
              rw [h1, ysL_at, if_neg (by omega)] at h2
              exact h2
            have hstep : ∀ r, (ps.set k (nmT k t0, r)).map (·.1) = ysL s (k + 1) := fun r => by
              rw [List.map_set, hps.out, ht0]
              exact ysL_step s hlt
            have HST := Lib.hid hstep
            have HNL := Lib.hid hnl
            have hw1 : wrap64 (122 - (k : Int)) = 122 - k := by unfold wrap64; omega
            have hw2 : IntKind.i64.wrap (122 - (k : Int)) = 122 - k := by rw [IntKind.wrap_i64]; omega
            have hw3 : IntKind.u8.wrap (122 - (k : Int)) = 122 - k := by
              have : ∀ k : Nat, k < 8 → IntKind.u8.wrap (122 - (k : Int)) = 122 - k := by decide
              exact this k hk8
            have hnb : (((nmB k).toNat : Nat) : Int) = 122 - k := by rw [nmB_nat k hk8]; omega
            have kc : (convert 56 9 (.slice (some ⟨wr.heap.size, 0, none⟩) 1 1)).run Tryd.prog (wr.alloc (.cells #[.int .u8 (122 - (k : Int))] 5)) = .ok (.string (str [nmB k])) (wr.alloc (.cells #[.int .u8 (122 - (k : Int))] 5)) :=
              run_convert_bytes_back (P := Tryd.prog) _ 56 9 5 ⟨wr.heap.size, 0, none⟩ 1 [nmB k] Tryd.underlying56 Tryd.underlying5 Tryd.underlying9 (fun j hj => by
                obtain rfl : j = 0 := by simpa using hj
                rw [show (⟨wr.heap.size, 0, none⟩ : Addr).add 0 = ⟨wr.heap.size, 0, none⟩ from rfl, (Blk.new wr #[.int .u8 (122 - (k : Int))] 5).cell]
                show some (Value.int .u8 (122 - (k : Int))) = some (Value.int .u8 ((nmB k).toNat : Int))
                rw [hnb])
            have hE8 := (Ext.refl wr).alloc (.cells #[.int .u8 (122 - (k : Int))] 5)
            have hP8 := hP.ext hE8
            obtain ⟨⟨u0, e1⟩, e2⟩ := hP8.cellS (i := k) (k := 0) (by exact hkp) (by decide)
            simp only [Nat.add_zero] at e1 e2
            have hcb := hBS.at
            have hBS8 := (hBS.ext hE8).set (i := k * 9) hg1 hne (.string (str [nmB k]))
            have hP9 := hP8.stored2 (i := k) (k := 0) (u := .string (str [nmB k])) (t := nm1 k t0) (t0 := t0) (r := r0) (by exact hkp) (by decide) hp0 (by simp [encT, nm1]) rfl
            simp only [Nat.add_zero] at hP9
            have HPX := Lib.hid hP
            clear hP hstep hnl ht0 hnb
            go_upto_region 10 with (fail)
            clear e1 e2 kc hcb hw1 hw2 hw3 hP8 hE8 HPX hBS
            have hBS := hBS8
            have hP := hP9
            clear hBS8 hP9
            generalize World.setCell _ _ _ = W10 at hBS hP ⊢
            have hSA : ∀ a, BoxS W5 gb #[.int .i64 0, .slice (some ⟨g, 0, none⟩) s.tasks.length c6] 24 a → ∀ j, a.cell? ⟨gb, j, none⟩ = #[.int .i64 0, .slice (some ⟨g, 0, none⟩) s.tasks.length c6][j]? := fun a h => h.at
            refine wp_region_mix (T := [8, 11]) (S := BoxS W5 gb #[.int .i64 0, .slice (some ⟨g, 0, none⟩) s.tasks.length c6] 24) (W := W10) (fun _ _ h hx => h.ext hx) (by kernel_rfl) (by kernel_rfl) (Ext.refl _).drew hBS (fun _ _ h => h) (fun K hK => ?_)
            (repeat (first | (refine hX_skip ?_ ?_; (· rfl)) | (apply hX_and; (· rfl); (· rfl); (· rfl); (· rfl); (· rfl); simp only [Act.put, List.setIfInBounds_toArray, List.set_cons_zero, List.set_cons_succ]) | (apply hX_or; (· rfl); (· rfl); (· rfl); (· rfl); (· rfl); simp only [Act.put, List.setIfInBounds_toArray, List.set_cons_zero, List.set_cons_succ]) | (apply hX_off; (· rfl); (· rfl); (· rfl); simp only [Act.put, List.setIfInBounds_toArray, List.set_cons_zero, List.set_cons_succ]) | (apply hX_val; (· rfl); (· intro w hS; go_simp; with_reducible rfl); (· rfl); simp only [Act.put, List.setIfInBounds_toArray, List.set_cons_zero, List.set_cons_succ]) | (apply hX_call; (· rfl); (· rfl); (· intro w hS; go_simp; exact ⟨rfl, rfl⟩); (· intro w hS; fail); simp only [Act.put, List.setIfInBounds_toArray, List.set_cons_zero, List.set_cons_succ]) | (apply hX_if; (· rfl); (· rfl); (· rfl); (· intro hif w hS; go_simp; with_reducible rfl); simp only [Act.put, List.setIfInBounds_toArray, List.set_cons_zero, List.set_cons_succ]) | (apply hX_ifcall; (· rfl); (· rfl); (· rfl); (· intro hif w hS; go_simp; exact ⟨rfl, rfl⟩); (· intro hif w hS; fail); simp only [Act.put, List.setIfInBounds_toArray, List.set_cons_zero, List.set_cons_succ]))); refine hX_nil ?_
            refine hK _ ?_
            clear hK K
            refine wpX_want (i := 8) (by kernel_rfl) rfl (by simp [Region.wanted, yielded]) ?_
            intro w' hx K hK
            have hPx := hP.ext hx
            have hSx2 := hBS.ext hx
            obtain ⟨⟨u0, e1⟩, e2⟩ := hPx.cellS (i := k) (k := 7) (by simpa using hkp) (by decide)
            clear hP hBS
            go_simp
            have hBS := hSx2.set (i := k * 9 + 7) hg1 hne (.int .u64 0)
            have hP := hPx.stored2 (i := k) (k := 7) (u := .int .u64 0) (t := nm2 k t0) (t0 := nm1 k t0) (r := r0) (by simpa using hkp) (by decide) (by simp) (by simp [encT, nm1, nm2, nmT]) rfl
            refine hK _ _ hBS ?_
            clear hK K hx e1 e2 hPx hSx2
            refine wpX_want (i := 11) (by kernel_rfl) rfl (by simp [Region.wanted, yielded]) ?_
            intro w' hx K hK
            have hPx := hP.ext hx
            have hSx2 := hBS.ext hx
            obtain ⟨⟨u0, e1⟩, e2⟩ := hPx.cellS (i := k) (k := 8) (by simpa using hkp) (by decide)
            clear hP hBS
            go_simp
            have hBS := hSx2.set (i := k * 9 + 8) hg1 hne (.int .u64 0)
            have hP := hPx.stored2 (i := k) (k := 8) (u := .int .u64 0) (t := nmT k t0) (t0 := nm2 k t0) (r := r0) (by simpa using hkp) (by decide) (by simp) (by simp [encT, nm1, nm2, nmT]) rfl
            refine hK _ _ hBS ?_
            clear hK K hx e1 e2 hPx hSx2
            rw [List.set_set, List.set_set] at hP
            refine wpX_done (by kernel_rfl) (fun w5 hx5 => ?_) _
            have hP5 := hP.ext hx5
            have hB5 := hBS.ext hx5
            clear hP hBS hSA hx5
            go_wp2_with (fail)
            exact ⟨⟨k + 1, _, hlt, rfl, hP5, Lib.hid (HST.out r0), hB5⟩, by simp [intOf]; omega⟩
          · have hke : k = s.tasks.length := by omega
            subst hke
            have hTy := hP.tasks
            rw [hps.out] at hTy
            have hXw := hXW5.trans hBS.1
            have hc5 := hu5 wr hBS.1
            have hR1 := HRX.out (.slice A5 s.tasks.length c5) wr hXw (hT55.out.ext hBS.1)
            unfold setV at hR1
            rw [show (xS s).reload = 0 from rfl] at hR1
            have hcb0 := hBS.at
            have HR1 := Lib.hid hR1
            have HB := Lib.hid hBS
            have HTy := Lib.hid hTy
            have HSP := Lib.hid hps
            clear hR1 hTy hP hps hBS
            go_wp2_with (fail)
            refine HR1.out.mono ?_
            rintro e W11 ⟨vo, rfl, hO1, hX11⟩
            have hXw2 := hXw.trans hX11
            have hcb := (HB.out.ext hX11).at
            have hR2 := HRY.out (.slice (some ⟨g, 0, none⟩) s.tasks.length c6) W11 hXw2 (HTy.out.ext hX11)
            unfold setV at hR2
            rw [show (yS s).reload = 0 from rfl] at hR2
            have HR2 := Lib.hid hR2
            clear hR2 hc5 hcb0
            go_wp2_with (fail)
            refine HR2.out.mono ?_
            rintro e W12 ⟨vo2, rfl, hO2, hX12⟩
            obtain ⟨Ao, co, e1, _, _⟩ := OwnL.form hO1
            obtain ⟨Ap, cp, e2, _, _⟩ := OwnL.form hO2
            subst e1 e2
            have hE1 := (OwnL.evs hO1).ext hX12
            have hE2 := OwnL.evs hO2
            clear hcb hO1 hO2
            generalize eventsK (yS s) l = L at *
            go_wp2_with (fail)
            refine (sameEv_any _ _ L L _ hE1 hE2).mono ?_
            rintro e W13 ⟨rfl, hX13⟩
            rw [decide_eq_true rfl]
            go_wp2_with (fail)
            refine (HKN.out W13 ((hXw2.trans hX12).trans hX13)).mono ?_
            rintro e W14 ⟨rfl, hb14⟩
            go_wp2_with (fail)
            go_ret
            exact ⟨rfl, (((hXw2.trans hX12).trans hX13).call hb14).below⟩
end Go.Proofs.YtniejidekflmiaaDoor
