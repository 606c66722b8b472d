/- TolerLess. -/
import Derived.Test.YtknfdjnbndfboaaDoorProg
import Derived.Test.YtknfdjnbndfboaaDoorBase
import Derived.Test.YtknfdjnbndfboaaDoorHeldX
import Derived.Test.YtknfdjnbndfboaaDoorApp
import Derived.Test.YtknfdjnbndfboaaDoorTsk1
import Derived.Test.YtknfdjnbndfboaaDoorTsk3
import Derived.Test.YtknfdjnbndfboaaDoorTsk4
import Derived.Test.YtknfdjnbndfboaaDoorTskZ
import Derived.Test.YtknfdjnbndfboaaDoorTskP
import Derived.Test.YtknfdjnbndfboaaDoorTskN
import Derived.Test.YtknfdjnbndfboaaDoorTskW
import Derived.Test.YtknfdjnbndfboaaDoorTskA
import Derived.Test.YtknfdjnbndfboaaDoorTskO
import Derived.Test.YtknfdjnbndfboaaDoorSetO
import Derived.Test.YtknfdjnbndfboaaDoorRespS
import Derived.Test.YtknfdjnbndfboaaDoorResp
import Derived.Test.YtknfdjnbndfboaaDoorTolA
import Derived.Test.YtknfdjnbndfboaaDoorTolI
import Derived.Test.YtknfdjnbndfboaaDoorTolP
import Derived.Test.YtknfdjnbndfboaaDoorLaw14k
import Derived.Test.YtknfdjnbndfboaaDoorLaw14a
import Derived.Deep.Cut
import Derived.Lib.Hide
namespace Go.Proofs.YtknfdjnbndfboaaDoor
open Go.RowKit
attribute [local go_sem] setCell_twice ByteArray.toList_eq str_list Ext.alloc Ext.drew
set_option linter.unusedSimpArgs false
set_option maxRecDepth 100000
set_option maxHeartbeats 6400000
attribute [local irreducible] popN

theorem tolerLess_walk (v : Value) (s : TSet) (i k j : Int) (w : World) (hv : ∃ x, v = setV s x ∧ Tasks w x s.tasks ∧ s.fit) (_ : (Lit.int .i64 i).wf = true) (_ : (Lit.int .i64 k).wf = true) (_ : (Lit.int .i64 j).wf = true) (hG : GOK w) :
    Calls Tryd.prog 5 #[v, .int .i64 i, .int .i64 k, .int .i64 j] w fun e w' => e = .returned (.bool true) ∧ Below w.heap.size w w' := by
  obtain ⟨x, rfl, hx, hf⟩ := hv
  have l1 := hx.len
  have hg := hf.good
  have hx0 := hx
  obtain ⟨A, c, rfl, hle, hcm, _⟩ := hx0
  unfold maxLen at hcm
  go_enter Tryd.func5, Tryd.ntmps5
  unfold setV
  go_upto_region 1 with (fail)
  have hL : Below w.heap.size w (w.alloc (.cells #[.int .i64 s.reload, (.slice A s.tasks.length c)] 24)) := (by repeat (first | exact Below.refl _ _ | assumption | refine Below.drew ?_ | refine Below.alloc ?_ (by first | (simp; done) | (simp; omega) | omega) _ | refine Below.setCell ?_ (by first | (simp; done) | (simp; omega) | omega) _)); have hB : Blk (w.alloc (.cells #[.int .i64 s.reload, (.slice A s.tasks.length c)] 24)) w.heap.size #[.int .i64 s.reload, (.slice A s.tasks.length c)] 24 := Blk.new _ _ _
  have hr := hx.ext ⟨hL⟩
  have hG0 := hG.below hL
  generalize w.alloc _ = W at hL hB hr hG0 ⊢
  have hc := hB.under
  have HK := Lib.hid fun (W' : World) (h : Ext W W') => known14_any W' (hG0.below h.below)
  refine wp_region_all' (S := Ext W) (Ext.refl W) (fun K hK => ?_); (repeat (first | (apply hO_and; (· rfl); (· rfl); (· rfl); (· rfl); simp only [Act.put, List.setIfInBounds_toArray, List.set_cons_zero, List.set_cons_succ]) | (apply hO_or; (· rfl); (· rfl); (· rfl); (· rfl); simp only [Act.put, List.setIfInBounds_toArray, List.set_cons_zero, List.set_cons_succ]) | (apply hO_off; (· rfl); (· rfl); simp only [Act.put, List.setIfInBounds_toArray, List.set_cons_zero, List.set_cons_succ]) | (apply hO_val; (· intro w hS; go_simp; with_reducible rfl); (· rfl); simp only [Act.put, List.setIfInBounds_toArray, List.set_cons_zero, List.set_cons_succ]) | (apply hO_call; (· rfl); (· intro w hS; go_simp; exact ⟨rfl, rfl⟩); (· intro w hS; exact callX hS (may14_any s _ _ (hr.ext hS) hg)); simp only [Act.put, List.setIfInBounds_toArray, List.set_cons_zero, List.set_cons_succ]) | (apply hO_if; (· rfl); (· rfl); (· intro hif w hS; go_simp; with_reducible rfl); simp only [Act.put, List.setIfInBounds_toArray, List.set_cons_zero, List.set_cons_succ]) | (apply hO_ifcall; (· rfl); (· rfl); (· intro hif w hS; go_simp; exact ⟨rfl, rfl⟩); (· intro hif w hS; exact callX hS (may14_any s _ _ (hr.ext hS) hg)); simp only [Act.put, List.setIfInBounds_toArray, List.set_cons_zero, List.set_cons_succ]))); refine hO_nil ?_; refine forget_range 15 24 (Nat.le_of_ble_eq_true rfl) (fun junk => ?_); simp only [List.take_succ_cons, List.take_zero, List.drop_succ_cons, List.drop_zero, List.cons_append, List.nil_append, fillF, Nat.reduceAdd]; refine hK _ ?_; clear hK K
  intro w1 hX1
  by_cases hin : may14 s = true ∧ (0 ≤ i ∧ i < s.tasks.length) ∧ (0 ≤ j ∧ j < s.tasks.length)
  · obtain ⟨hm, ⟨h0, h1⟩, ⟨h2, h3⟩⟩ := hin
    have hd : (!may14 s || decide (i < 0) || decide ((s.tasks.length : Int) ≤ i) || decide (j < 0) || decide ((s.tasks.length : Int) ≤ j)) = false := by rw [hm]; simp; omega
    rw [hd]
    clear hd
    obtain ⟨i, rfl⟩ := Int.eq_ofNat_of_zero_le h0
    obtain ⟨j, rfl⟩ := Int.eq_ofNat_of_zero_le h2
    have hi : i < s.tasks.length := by omega
    have hj : j < s.tasks.length := by omega
    have hal := may14_all hm
    have hs := fine_of hal hf
    obtain ⟨m, hmk, hm16⟩ := and16_i64 k
    have hft := regs_each (hs.at j hj).regs
    have HO := Lib.hid fun (W' : World) (h : Ext W W') => tolerOf_any s (.slice A s.tasks.length c) i W' (hr.ext h) hf (hG0.below h.below)
    rw [tolI_in hal hi] at HO
    have hc1 := hc w1 hX1
    go_wp2_with (fail)
    refine (put_any s _ _ (hr.ext hX1) hf).mono ?_
    rintro e w2 ⟨v2, ps, rfl, hP, hps, hbel⟩
    have hnl : ps.length = s.tasks.length := by rw [← hps, List.length_map]
    obtain ⟨g, c2, rfl, hg1, hg2⟩ := hP.head (by intro e; rw [e] at hnl; simp at hnl; omega)
    have hkp : j < ps.length := by omega
    have pn : (ps[j]).1 = s.tasks[j] := by
      have : (ps.map (·.1))[j]? = s.tasks[j]? := by rw [hps]
      simpa [hkp, hj] using this
    obtain ⟨gr, cr, hrow, hgr⟩ := hP.rowAt hkp (by rw [pn]; intro e; rw [e] at hft; simp at hft)
    obtain ⟨⟨t0, r0⟩, hp0⟩ : ∃ p, ps[j] = p := ⟨_, rfl⟩
    rw [hp0] at pn hrow
    dsimp only at pn hrow
    subst hrow
    rw [← pn] at hft
    have HPN := Lib.hid pn
    clear pn
    unfold setV
    dsimp only
    clear hc1
    go_upto_region 4 with (fail)
    have hBx : Blk (w2.alloc (.cells #[.int .i64 s.reload, .slice (some ⟨g, 0, none⟩) ps.length c2] 24)) w2.heap.size #[.int .i64 s.reload, .slice (some ⟨g, 0, none⟩) ps.length c2] 24 := Blk.new _ _ _
    have hX4 : Ext w1 (w2.alloc (.cells #[.int .i64 s.reload, .slice (some ⟨g, 0, none⟩) ps.length c2] 24)) := (Ext.mk hbel).alloc _
    have hP := hP.ext ((Ext.refl w2).alloc (.cells #[.int .i64 s.reload, .slice (some ⟨g, 0, none⟩) ps.length c2] 24))
    rw [hnl] at hBx hP hX4 ⊢
    generalize w2.alloc _ = W4 at hBx hP hX4 ⊢
    generalize w2.heap.size = gb at hBx ⊢
    have hc4 := hBx.cell
    have hrw := hP.at (i := j) (k := 6) hkp (by decide)
    rw [hp0] at hrw
    have hrw2 : W4.cell? ⟨g, j * 9 + 6, none⟩ = some (.slice (some ⟨gr, 0, none⟩) t0.regs.length cr) := hrw
    obtain ⟨mi, hmi⟩ : ∃ mi, mi = m % t0.regs.length := ⟨_, rfl⟩
    have hmil : mi < t0.regs.length := by rw [hmi]; exact Nat.mod_lt _ (by omega)
    have hmod : (m : Int).tmod (t0.regs.length : Int) = (mi : Int) := by rw [hmi]; rfl
    have hmod2 : (m : Int) % (t0.regs.length : Int) = (mi : Int) := by rw [hmi]; rfl
    obtain ⟨hce, hfr⟩ := hP.rowCell hkp hp0 hmil
    have hrange := hft.2.2 _ (List.getElem_mem hmil)
    have hPs := hP.rowSet hkp hp0 (j := mi) (t0.regs[mi] - 1)
    have hless : ({ t0 with regs := t0.regs.set mi (t0.regs[mi] - 1) } : Tsk) = lessT mi t0 := by
      unfold lessT
      rw [getD_at hmil, wrap_in (by omega) (by omega)]
    have hne : gb ≠ gr := fun e => own_ne_blk (hP.2.1 _ (List.getElem_mem hkp)) hBx (by decide) (by rw [hp0, e]; rfl)
    rw [hless] at hPs
    have hTx := hPs.tasks
    rw [map_at hkp hp0, hps] at hTx
    have hX5 : Ext w1 (W4.setCell ⟨gr, mi, none⟩ (.int .i64 (t0.regs[mi] - 1))) := hX4.set hgr _
    have hB5 := hBx.far (p := ⟨gr, mi, none⟩) hne (.int .i64 (t0.regs[mi] - 1))
    generalize t0.regs[mi] = x at hce hrange hTx hX5 hB5
    have hnl0 : ¬ (t0.regs.length : Int) = 0 := by omega
    have hl8 := hft.2.1
    have hmiN : m % t0.regs.length = mi := hmi.symm
    clear hrw hPs hless hft hmi hP
    go_upto_region 6 with (fail)
    clear hce hfr hc4 hrw2 hmod hmod2 hmiN
    generalize W4.setCell _ _ = W5 at hTx hX5 hB5 ⊢
    have hf2 := less_fit hf j mi
    have hXW5 := hX1.trans hX5
    have HT := Lib.hid fun (W' : World) (h : Ext W5 W') => tolerOf_any (s.at j (lessT mi)) (.slice (some ⟨g, 0, none⟩) s.tasks.length c2) i W' (Tasks.ext (ts := (s.at j (lessT mi)).tasks) hTx h) hf2 (hG0.below (hXW5.trans h).below)
    have hA := allR_any (s.at j (lessT mi)) (.slice (some ⟨g, 0, none⟩) s.tasks.length c2) W5 hTx hf2.good
    have hcb := hB5.cell
    go_wp2_with (fail)
    refine hA.mono ?_
    rintro e w6 ⟨rfl, hb6⟩
    have hX6 : Ext W5 w6 := ⟨hb6⟩
    clear hcb hb6
    cases hax : allB (s.at j (lessT mi)) with
    | false =>
      go_wp2_with (fail)
      go_ret
      exact ⟨rfl, hL.trans ((hXW5.trans hX6).below.mono hL.size)⟩
    | true =>
      have hle := (less_leaner j mi hal hax hf).tol (fine_of hax hf2) hs hi
      have hto := tolI_in hax (k := i) (by rw [s.at_len]; exact hi)
      rw [hto] at HT
      have hlem := fun a (h : tolO s i = some a) => tolO_le hle h
      clear hto hle hax
      have hc6 := hc w6 (hXW5.trans hX6)
      cases hoi : tolO s i with
      | none =>
        obtain ⟨n2, ok2, hn2⟩ := optN_tup (tolO (s.at j (lessT mi)) i)
        rw [hn2] at HT
        rw [hoi] at HO
        unfold optN at HO
        clear hlem hn2 hoi
        go_wp2_with (fail)
        refine (HO.out w6 (hXW5.trans hX6)).mono ?_
        rintro e w7 ⟨rfl, hb7⟩
        have hX7 := hX6.call hb7
        have hcb7 := (hB5.ext hX7).cell
        clear hc6
        go_wp2_with (fail)
        refine (HT.out w7 hX7).mono ?_
        rintro e w8 ⟨rfl, hb8⟩
        have hX8 := hX7.call hb8
        clear hcb7
        go_wp2_with (fail)
        refine (HK.out w8 (hXW5.trans hX8)).mono ?_
        rintro e w9 ⟨rfl, hb9⟩
        go_wp2_with (fail)
        go_ret
        exact ⟨rfl, hL.trans (((hXW5.trans hX8).call hb9).below.mono hL.size)⟩
      | some a =>
        obtain ⟨b, hb, hab⟩ := hlem a hoi
        rw [hb] at HT
        rw [hoi] at HO
        unfold optN at HO HT
        dsimp only at HO HT
        clear hlem hb hoi
        go_wp2_with (fail)
        refine (HO.out w6 (hXW5.trans hX6)).mono ?_
        rintro e w7 ⟨rfl, hb7⟩
        have hX7 := hX6.call hb7
        have hcb7 := (hB5.ext hX7).cell
        clear hc6
        go_wp2_with (fail)
        refine (HT.out w7 hX7).mono ?_
        rintro e w8 ⟨rfl, hb8⟩
        have hX8 := hX7.call hb8
        clear hcb7
        go_wp2_with (fail)
        refine (HK.out w8 (hXW5.trans hX8)).mono ?_
        rintro e w9 ⟨rfl, hb9⟩
        go_wp2_with (fail)
        go_ret
        exact ⟨by first | rfl | (simp; done) | (simp; omega), hL.trans (((hXW5.trans hX8).call hb9).below.mono hL.size)⟩
  · have hd : (!may14 s || decide (i < 0) || decide ((s.tasks.length : Int) ≤ i) || decide (j < 0) || decide ((s.tasks.length : Int) ≤ j)) = true := by
      cases hm : may14 s with
      | false => simp
      | true =>
        rw [hm] at hin
        simp only [true_and] at hin
        simp
        omega
    rw [hd]
    go_wp2_with (fail)
    go_ret
    exact ⟨rfl, hL.trans (hX1.below.mono hL.size)⟩
end Go.Proofs.YtknfdjnbndfboaaDoor
