/- AdmitLess. -/
import Derived.Test.YtknfdjnbndfboaaGreatDoorProg
import Derived.Test.YtknfdjnbndfboaaGreatDoorBase
import Derived.Test.YtknfdjnbndfboaaGreatDoorHeldX
import Derived.Test.YtknfdjnbndfboaaGreatDoorApp
import Derived.Test.YtknfdjnbndfboaaGreatDoorTsk1
import Derived.Test.YtknfdjnbndfboaaGreatDoorTsk3
import Derived.Test.YtknfdjnbndfboaaGreatDoorTsk4
import Derived.Test.YtknfdjnbndfboaaGreatDoorTskZ
import Derived.Test.YtknfdjnbndfboaaGreatDoorTskP
import Derived.Test.YtknfdjnbndfboaaGreatDoorTskN
import Derived.Test.YtknfdjnbndfboaaGreatDoorTskW
import Derived.Test.YtknfdjnbndfboaaGreatDoorTskA
import Derived.Test.YtknfdjnbndfboaaGreatDoorTskO
import Derived.Test.YtknfdjnbndfboaaGreatDoorSetO
import Derived.Test.YtknfdjnbndfboaaGreatDoorRespS
import Derived.Test.YtknfdjnbndfboaaGreatDoorResp
import Derived.Test.YtknfdjnbndfboaaGreatDoorTolA
import Derived.Test.YtknfdjnbndfboaaGreatDoorTolP
import Derived.Test.YtknfdjnbndfboaaGreatDoorAdm
import Derived.Test.YtknfdjnbndfboaaGreatDoorRefJ
import Derived.Test.YtknfdjnbndfboaaGreatDoorLaw13k
import Derived.Deep.Cut
import Derived.Lib.Hide
namespace Go.Proofs.YtknfdjnbndfboaaGreatDoor
open Go.RowKit
attribute [local go_sem] setCell_twice ByteArray.toList_eq str_list Ext.alloc Ext.drew vdHow
set_option linter.unusedSimpArgs false
set_option maxRecDepth 100000
set_option maxHeartbeats 6400000
attribute [local irreducible] popN

theorem maxR_le {xs : List Int} {m : Int} (h0 : 0 ≤ m) (h : ∀ x ∈ xs, x ≤ m) : maxR xs ≤ m := by
  obtain ⟨_, _, c⟩ := foldl_max xs 0
  unfold maxR
  rcases c with c | c
  · omega
  · exact h _ c
theorem maxR_less {xs : List Int} (h : regsB xs = true) (j : Nat) : maxR (xs.set j (wrap64 (xs.getD j 0 - 1))) ≤ maxR xs := by
  obtain ⟨h1, h2, h3⟩ := regs_each h
  have hm := foldl_max xs 0
  by_cases hj : j < xs.length
  · rw [getD_at hj]
    have hx := h3 _ (List.getElem_mem hj)
    rw [wrap_in (by omega) (by omega)]
    refine maxR_le hm.1 (fun x hx2 => ?_)
    rcases List.mem_or_eq_of_mem_set hx2 with hx2 | rfl
    · exact hm.2.1 x hx2
    · have := hm.2.1 _ (List.getElem_mem hj)
      show _ ≤ xs.foldl max 0
      omega
  · rw [List.set_eq_of_length_le (by omega)]
    exact Int.le_refl _
theorem less_block {s : TSet} (hs : Fine s) (k j : Nat) (hl : Leaner (s.at k (lessT j)) s) (low high : Nat) : blockOf (s.at k (lessT j)) low high ≤ blockOf s low high := by
  unfold blockOf
  by_cases h : high < low ∧ low < s.tasks.length
  · have h' : high < low ∧ low < (s.at k (lessT j)).tasks.length := by rw [s.at_len]; exact h
    rw [dif_pos h, dif_pos h']
    have he := hl.each low h.2 h'.2
    have hreg := (hs.at low h.2).regs
    have hd : ((s.at k (lessT j)).tasks[low]'h'.2).mode = (s.tasks[low]'h.2).mode ∧ ((s.at k (lessT j)).tasks[low]'h'.2).q = (s.tasks[low]'h.2).q ∧ ((s.at k (lessT j)).tasks[low]'h'.2).theta = (s.tasks[low]'h.2).theta ∧ maxR ((s.at k (lessT j)).tasks[low]'h'.2).regs ≤ maxR (s.tasks[low]'h.2).regs := by
      rw [s.at_get]
      split
      · exact ⟨rfl, rfl, rfl, maxR_less hreg j⟩
      · exact ⟨rfl, rfl, rfl, Int.le_refl _⟩
    have ho : ownZ (s.at k (lessT j)) ((s.at k (lessT j)).tasks[low]'h'.2) = ownZ s (s.tasks[low]'h.2) := by
      unfold ownZ
      rw [he.2.2.2.1]
      rfl
    have hw : wholeZ (s.at k (lessT j)) ((s.at k (lessT j)).tasks[low]'h'.2) ≤ wholeZ s (s.tasks[low]'h.2) := by
      unfold wholeZ
      rw [ho]
      have := he.2.2.2.2
      omega
    unfold blockAt
    rw [hd.1, hd.2.1, hd.2.2.1, ho]
    have := hd.2.2.2
    split
    · omega
    · split
      · omega
      · split <;> omega
  · have h' : ¬ (high < low ∧ low < (s.at k (lessT j)).tasks.length) := by rw [s.at_len]; exact h
    rw [dif_neg h, dif_neg h']
    exact Int.le_refl _
theorem less_most {s : TSet} (hs : Fine s) (k j : Nat) (hl : Leaner (s.at k (lessT j)) s) (i : Nat) : ∀ n, mostL (s.at k (lessT j)) i n ≤ mostL s i n
  | 0 => Int.le_refl _
  | n + 1 => by
    have h1 := less_most hs k j hl i n
    have h2 := less_block hs k j hl n i
    show max (mostL (s.at k (lessT j)) i n) (blockOf (s.at k (lessT j)) n i) ≤ max (mostL s i n) (blockOf s n i)
    omega
/-- a set that is accepted, with a region shorter by one -/
theorem less_judge {s : TSet} (k j : Nat) (h : allB s = true) (h' : allB (s.at k (lessT j)) = true) (hf : s.fit) (ha : (judgeS s).how = 1) : (judgeS (s.at k (lessT j))).how = 1 := by
  have hs := fine_of h hf
  have hs' := fine_of h' (less_fit hf k j)
  have hl := less_leaner k j h h' hf
  have ha := (judgeN_acc s s.tasks.length).1 ha
  refine (judgeN_acc _ _).2 fun i hi => ?_
  rw [s.at_len] at hi
  have h1 := (respS_acc i).1 (ha i hi)
  rw [respS_acc]
  have h2 : mostS (s.at k (lessT j)) i ≤ mostS s i := by
    unfold mostS
    rw [s.at_len]
    exact less_most hs k j hl i _
  exact hl.acc hs' hs hi ⟨(mostL_range hs' i _).1, h2⟩ h1
theorem admitLess_walk (v : Value) (s : TSet) (i k : Int) (w : World) (hv : ∃ x, v = setV s x ∧ Tasks w x s.tasks ∧ s.fit) (_ : (Lit.int .i64 i).wf = true) (_ : (Lit.int .i64 k).wf = true) (hG : GOK w) :
    Calls Tryz.prog 3 #[v, .int .i64 i, .int .i64 k] w fun e w' => e = .returned (.bool true) ∧ Below w.heap.size w w' := by
  obtain ⟨x, rfl, hx, hf⟩ := hv
  have l1 := hx.len
  have hg := hf.good
  have hx0 := hx
  obtain ⟨A, c, rfl, hle, hcm, _⟩ := hx0
  unfold maxLen at hcm
  go_enter Tryz.func3, Tryz.ntmps3
  unfold setV
  go_upto_region 1 with (fail)
  have hL : Below w.heap.size w (w.alloc (.cells #[.int .i64 s.reload, (.slice A s.tasks.length c)] 24)) := (by repeat (first | exact Below.refl _ _ | assumption | refine Below.drew ?_ | refine Below.alloc ?_ (by first | (simp; done) | (simp; omega) | omega) _ | refine Below.setCell ?_ (by first | (simp; done) | (simp; omega) | omega) _)); have hB : Blk (w.alloc (.cells #[.int .i64 s.reload, (.slice A s.tasks.length c)] 24)) w.heap.size #[.int .i64 s.reload, (.slice A s.tasks.length c)] 24 := Blk.new _ _ _
  have hr := hx.ext ⟨hL⟩
  have hG0 := hG.below hL
  generalize w.alloc _ = W at hL hB hr hG0 ⊢
  have hc := hB.under
  have HK := Lib.hid fun (W' : World) (h : Ext W W') => known13_any W' (hG0.below h.below)
  refine wp_region_all' (S := Ext W) (Ext.refl W) (fun K hK => ?_); (repeat (first | (apply hO_and; (· rfl); (· rfl); (· rfl); (· rfl); simp only [Act.put, List.setIfInBounds_toArray, List.set_cons_zero, List.set_cons_succ]) | (apply hO_or; (· rfl); (· rfl); (· rfl); (· rfl); simp only [Act.put, List.setIfInBounds_toArray, List.set_cons_zero, List.set_cons_succ]) | (apply hO_off; (· rfl); (· rfl); simp only [Act.put, List.setIfInBounds_toArray, List.set_cons_zero, List.set_cons_succ]) | (apply hO_val; (· intro w hS; go_simp; with_reducible rfl); (· rfl); simp only [Act.put, List.setIfInBounds_toArray, List.set_cons_zero, List.set_cons_succ]) | (apply hO_call; (· rfl); (· intro w hS; go_simp; exact ⟨rfl, rfl⟩); (· intro w hS; first | exact callX hS (may13_any s _ _ (hr.ext hS)) | exact callX hS (allR_any s _ _ (hr.ext hS) hg)); simp only [Act.put, List.setIfInBounds_toArray, List.set_cons_zero, List.set_cons_succ]) | (apply hO_if; (· rfl); (· rfl); (· intro hif w hS; go_simp; with_reducible rfl); simp only [Act.put, List.setIfInBounds_toArray, List.set_cons_zero, List.set_cons_succ]) | (apply hO_ifcall; (· rfl); (· rfl); (· intro hif w hS; go_simp; exact ⟨rfl, rfl⟩); (· intro hif w hS; first | exact callX hS (may13_any s _ _ (hr.ext hS)) | exact callX hS (allR_any s _ _ (hr.ext hS) hg)); simp only [Act.put, List.setIfInBounds_toArray, List.set_cons_zero, List.set_cons_succ]))); refine hO_nil ?_; refine forget_range 11 18 (Nat.le_of_ble_eq_true rfl) (fun junk => ?_); simp only [List.take_succ_cons, List.take_zero, List.drop_succ_cons, List.drop_zero, List.cons_append, List.nil_append, fillF, Nat.reduceAdd]; refine hK _ ?_; clear hK K
  intro w1 hX1
  by_cases hin : may13 s = true ∧ allB s = true ∧ (0 ≤ i ∧ i < s.tasks.length)
  · obtain ⟨hm, hal, h0, h1⟩ := hin
    have hd : (!may13 s || !allB s || decide (i < 0) || decide ((s.tasks.length : Int) ≤ i)) = false := by rw [hm, hal]; simp; omega
    rw [hd]
    clear hd
    obtain ⟨j, rfl⟩ := Int.eq_ofNat_of_zero_le h0
    have hj : j < s.tasks.length := by omega
    have hs := fine_of hal hf
    obtain ⟨m, hmk, hm16⟩ := and16_i64 k
    have hft := regs_each (hs.at j hj).regs
    have hJ := judge13_any s (.slice A s.tasks.length c) w1 (hr.ext hX1) hs
    have hc1 := hc w1 hX1
    have HLJ := Lib.hid fun (j mi : Nat) (h' : allB (s.at j (lessT mi)) = true) (ha : (judgeS s).how = 1) => less_judge j mi hal h' hf ha
    generalize judgeS s = d at hJ HLJ
    obtain ⟨dh, dt, drs⟩ := d
    unfold vdV at hJ
    dsimp only at hJ HLJ
    go_wp2_with (fail)
    refine hJ.mono ?_
    rintro e w1b ⟨rd, rfl, _, hb1b⟩
    have hX1 := hX1.call hb1b
    clear hc1 hb1b hJ
    have hc1 := hc w1b hX1
    by_cases hh : dh = 1
    · subst hh
      go_wp2_with (fail)
      refine (put_any s _ _ (hr.ext hX1) hf).mono ?_
      rintro e w2 ⟨v2, ps, rfl, hP, hps, hbel⟩
      have hnl : ps.length = s.tasks.length := by rw [← hps, List.length_map]
      obtain ⟨g, c2, rfl, hg1, hg2⟩ := hP.head (by intro e; rw [e] at hnl; simp at hnl; omega)
      have hkp : j < ps.length := by omega
      have pn : (ps[j]).1 = s.tasks[j] := by
        have : (ps.map (·.1))[j]? = s.tasks[j]? := by rw [hps]
        simpa [hkp, hj] using this
      obtain ⟨gr, cr, hrow, hgr⟩ := hP.rowAt hkp (by rw [pn]; intro e; rw [e] at hft; simp at hft)
      obtain ⟨⟨t0, r0⟩, hp0⟩ : ∃ p, ps[j] = p := ⟨_, rfl⟩
      rw [hp0] at pn hrow
      dsimp only at pn hrow
      subst hrow
      rw [← pn] at hft
      have HPN := Lib.hid pn
      clear pn
      unfold setV
      dsimp only
      clear hc1
      go_upto_region 6 with (fail)
      have hBx : Blk (w2.alloc (.cells #[.int .i64 s.reload, .slice (some ⟨g, 0, none⟩) ps.length c2] 24)) w2.heap.size #[.int .i64 s.reload, .slice (some ⟨g, 0, none⟩) ps.length c2] 24 := Blk.new _ _ _
      have hX4 : Ext w1b (w2.alloc (.cells #[.int .i64 s.reload, .slice (some ⟨g, 0, none⟩) ps.length c2] 24)) := (Ext.mk hbel).alloc _
      have hP := hP.ext ((Ext.refl w2).alloc (.cells #[.int .i64 s.reload, .slice (some ⟨g, 0, none⟩) ps.length c2] 24))
      rw [hnl] at hBx hP hX4 ⊢
      generalize w2.alloc _ = W4 at hBx hP hX4 ⊢
      generalize w2.heap.size = gb at hBx ⊢
      have hc4 := hBx.cell
      have hrw := hP.at (i := j) (k := 6) hkp (by decide)
      rw [hp0] at hrw
      have hrw2 : W4.cell? ⟨g, j * 9 + 6, none⟩ = some (.slice (some ⟨gr, 0, none⟩) t0.regs.length cr) := hrw
      obtain ⟨mi, hmi⟩ : ∃ mi, mi = m % t0.regs.length := ⟨_, rfl⟩
      have hmil : mi < t0.regs.length := by rw [hmi]; exact Nat.mod_lt _ (by omega)
      have hmod : (m : Int).tmod (t0.regs.length : Int) = (mi : Int) := by rw [hmi]; rfl
      have hmod2 : (m : Int) % (t0.regs.length : Int) = (mi : Int) := by rw [hmi]; rfl
      obtain ⟨hce, hfr⟩ := hP.rowCell hkp hp0 hmil
      have hrange := hft.2.2 _ (List.getElem_mem hmil)
      have hPs := hP.rowSet hkp hp0 (j := mi) (t0.regs[mi] - 1)
      have hless : ({ t0 with regs := t0.regs.set mi (t0.regs[mi] - 1) } : Tsk) = lessT mi t0 := by
        unfold lessT
        rw [getD_at hmil, wrap_in (by omega) (by omega)]
      have hne : gb ≠ gr := fun e => own_ne_blk (hP.2.1 _ (List.getElem_mem hkp)) hBx (by decide) (by rw [hp0, e]; rfl)
      rw [hless] at hPs
      have hTx := hPs.tasks
      rw [map_at hkp hp0, hps] at hTx
      have hX5 : Ext w1b (W4.setCell ⟨gr, mi, none⟩ (.int .i64 (t0.regs[mi] - 1))) := hX4.set hgr _
      have hB5 := hBx.far (p := ⟨gr, mi, none⟩) hne (.int .i64 (t0.regs[mi] - 1))
      generalize t0.regs[mi] = x at hce hrange hTx hX5 hB5
      have hnl0 : ¬ (t0.regs.length : Int) = 0 := by omega
      have hl8 := hft.2.1
      have hmiN : m % t0.regs.length = mi := hmi.symm
      clear hrw hPs hless hft hmi hP
      go_upto_region 8 with (fail)
      clear hce hfr hc4 hrw2 hmod hmod2 hmiN
      generalize W4.setCell _ _ = W5 at hTx hX5 hB5 ⊢
      have hf2 := less_fit hf j mi
      have hXW5 := hX1.trans hX5
      have hA := allR_any (s.at j (lessT mi)) (.slice (some ⟨g, 0, none⟩) s.tasks.length c2) W5 hTx hf2.good
      have hcb := hB5.cell
      go_wp2_with (fail)
      refine hA.mono ?_
      rintro e w6 ⟨rfl, hb6⟩
      have hX6 : Ext W5 w6 := ⟨hb6⟩
      clear hcb hb6
      cases hax : allB (s.at j (lessT mi)) with
      | false =>
        go_wp2_with (fail)
        go_ret
        exact ⟨rfl, hL.trans ((hXW5.trans hX6).below.mono hL.size)⟩
      | true =>
        have hJ2 := judge_any (s.at j (lessT mi)) (.slice (some ⟨g, 0, none⟩) s.tasks.length c2) w6 (Tasks.ext (ts := (s.at j (lessT mi)).tasks) hTx hX6) hf2 (hG0.below (hXW5.trans hX6).below)
        have hj2 : judgeA (s.at j (lessT mi)) = judgeS (s.at j (lessT mi)) := by unfold judgeA; rw [hax]; rfl
        have he2 : errA (s.at j (lessT mi)) = 0 := by unfold errA; rw [hax]; rfl
        have hh2 := HLJ.out j mi hax trivial
        rw [hj2, he2] at hJ2
        clear hj2 he2 hax HLJ
        generalize judgeS (s.at j (lessT mi)) = d2 at hJ2 hh2
        obtain ⟨d2h, d2t, d2rs⟩ := d2
        dsimp only at hh2
        subst hh2
        unfold vdV at hJ2
        dsimp only at hJ2
        have hcb6 := (hB5.ext hX6).cell
        go_wp2_with (fail)
        refine hJ2.mono ?_
        rintro e w7 ⟨r7, rfl, hO7, hb7⟩
        have hX7 := hX6.call hb7
        obtain ⟨A7, c7, rfl, _, _⟩ := OwnL.form hO7
        clear hcb6 hO7
        go_wp2_with (fail)
        have hX8 := hX7.alloc (.cells #[.int .i64 1, .int .i64 d2t, .slice A7 d2rs.length c7] 28)
        refine (HK.out _ (hXW5.trans hX8)).mono ?_
        rintro e w9 ⟨rfl, hb9⟩
        go_wp2_with (fail)
        go_ret
        exact ⟨rfl, hL.trans (((hXW5.trans hX8).call hb9).below.mono hL.size)⟩
    · go_wp2_with (fail)
      go_ret
      exact ⟨rfl, hL.trans (hX1.below.mono hL.size)⟩
  · have hd : (!may13 s || !allB s || decide (i < 0) || decide ((s.tasks.length : Int) ≤ i)) = true := by
      cases hm : may13 s with
      | false => simp
      | true =>
        cases hal : allB s with
        | false => simp
        | true =>
          rw [hm, hal] at hin
          simp only [true_and] at hin
          simp
          omega
    rw [hd]
    go_wp2_with (fail)
    go_ret
    exact ⟨rfl, hL.trans (hX1.below.mono hL.size)⟩
end Go.Proofs.YtknfdjnbndfboaaGreatDoor
