/- AdmitBounds. -/
import Derived.Test.YtknfdjnbndfboaaDoorProg
import Derived.Test.YtknfdjnbndfboaaDoorBase
import Derived.Test.YtknfdjnbndfboaaDoorHeldX
import Derived.Test.YtknfdjnbndfboaaDoorApp
import Derived.Test.YtknfdjnbndfboaaDoorTsk1
import Derived.Test.YtknfdjnbndfboaaDoorTsk3
import Derived.Test.YtknfdjnbndfboaaDoorTsk4
import Derived.Test.YtknfdjnbndfboaaDoorTskZ
import Derived.Test.YtknfdjnbndfboaaDoorTskP
import Derived.Test.YtknfdjnbndfboaaDoorTskA
import Derived.Test.YtknfdjnbndfboaaDoorTskO
import Derived.Test.YtknfdjnbndfboaaDoorSetO
import Derived.Test.YtknfdjnbndfboaaDoorRespS
import Derived.Test.YtknfdjnbndfboaaDoorResp
import Derived.Test.YtknfdjnbndfboaaDoorTolA
import Derived.Test.YtknfdjnbndfboaaDoorTolP
import Derived.Test.YtknfdjnbndfboaaDoorAdm
import Derived.Test.YtknfdjnbndfboaaDoorLaw13k
import Derived.Deep.Cut
import Derived.Lib.Hide
namespace Go.Proofs.YtknfdjnbndfboaaDoor
open Go.RowKit
attribute [local go_sem] setCell_twice ByteArray.toList_eq str_list Ext.alloc Ext.drew
set_option linter.unusedSimpArgs false
set_option maxRecDepth 100000
set_option maxHeartbeats 6400000
attribute [local irreducible] popN Calls

theorem admitBounds_walk (v : Value) (s : TSet) (w : World) (hv : ∃ x, v = setV s x ∧ Tasks w x s.tasks ∧ s.fit) (hG : GOK w) :
    Calls Tryd.prog 8 #[v] w fun e w' => e = .returned (.bool true) ∧ Below w.heap.size w w' := by
  obtain ⟨x, rfl, hx, hf⟩ := hv
  have l1 := hx.len
  have hg := hf.good
  have hx0 := hx
  obtain ⟨A, c, rfl, hle, hcm, _⟩ := hx0
  unfold maxLen at hcm
  go_enter Tryd.func8, Tryd.ntmps8
  unfold setV
  go_upto_region 1 with (fail)
  have hL : Below w.heap.size w (w.alloc (.cells #[.int .i64 s.reload, (.slice A s.tasks.length c)] 24)) := (by repeat (first | exact Below.refl _ _ | assumption | refine Below.drew ?_ | refine Below.alloc ?_ (by first | (simp; done) | (simp; omega) | omega) _ | refine Below.setCell ?_ (by first | (simp; done) | (simp; omega) | omega) _)); have hB : Blk (w.alloc (.cells #[.int .i64 s.reload, (.slice A s.tasks.length c)] 24)) w.heap.size #[.int .i64 s.reload, (.slice A s.tasks.length c)] 24 := Blk.new _ _ _
  have hr := hx.ext ⟨hL⟩
  have hG0 := hG.below hL
  generalize w.alloc _ = W at hL hB hr hG0 ⊢
  have hc := hB.under
  have HK := Lib.hid fun (W' : World) (h : Ext W W') => known13_any W' (hG0.below h.below)
  refine wp_region_all' (S := Ext W) (Ext.refl W) (fun K hK => ?_); (repeat (first | (apply hO_and; (· rfl); (· rfl); (· rfl); (· rfl); simp only [Act.put, List.setIfInBounds_toArray, List.set_cons_zero, List.set_cons_succ]) | (apply hO_or; (· rfl); (· rfl); (· rfl); (· rfl); simp only [Act.put, List.setIfInBounds_toArray, List.set_cons_zero, List.set_cons_succ]) | (apply hO_off; (· rfl); (· rfl); simp only [Act.put, List.setIfInBounds_toArray, List.set_cons_zero, List.set_cons_succ]) | (apply hO_val; (· intro w hS; go_simp; with_reducible rfl); (· rfl); simp only [Act.put, List.setIfInBounds_toArray, List.set_cons_zero, List.set_cons_succ]) | (apply hO_call; (· rfl); (· intro w hS; go_simp; exact ⟨rfl, rfl⟩); (· intro w hS; first | exact callX hS (may13_any s _ _ (hr.ext hS)) | exact callX hS (allR_any s _ _ (hr.ext hS) hg)); simp only [Act.put, List.setIfInBounds_toArray, List.set_cons_zero, List.set_cons_succ]) | (apply hO_if; (· rfl); (· rfl); (· intro hif w hS; go_simp; with_reducible rfl); simp only [Act.put, List.setIfInBounds_toArray, List.set_cons_zero, List.set_cons_succ]) | (apply hO_ifcall; (· rfl); (· rfl); (· intro hif w hS; go_simp; exact ⟨rfl, rfl⟩); (· intro hif w hS; first | exact callX hS (may13_any s _ _ (hr.ext hS)) | exact callX hS (allR_any s _ _ (hr.ext hS) hg)); simp only [Act.put, List.setIfInBounds_toArray, List.set_cons_zero, List.set_cons_succ]))); refine hO_nil ?_; refine forget_range 6 7 (Nat.le_of_ble_eq_true rfl) (fun junk => ?_); simp only [List.take_succ_cons, List.take_zero, List.drop_succ_cons, List.drop_zero, List.cons_append, List.nil_append, fillF, Nat.reduceAdd]; refine hK _ ?_; clear hK K
  intro w1 hX1
  cases hin : (!may13 s || !allB s) with
  | true =>
    go_wp2_with (fail)
    go_ret
    exact ⟨rfl, hL.trans (hX1.below.mono hL.size)⟩
  | false =>
    have hal : allB s = true := by
      cases h : allB s with
      | true => rfl
      | false => rw [h] at hin; simp at hin
    have hs := fine_of hal hf
    have hlen := hs.len
    have hj : judgeA s = judgeS s := by unfold judgeA; rw [if_pos hal]
    have he : errA s = 0 := by unfold errA; rw [if_pos hal]
    have hJ := judge_any s (.slice A s.tasks.length c) w1 (hr.ext hX1) hf (hG0.below hX1.below)
    rw [hj, he] at hJ
    have hacc := judgeN_acc s s.tasks.length
    have hrs := judgeN_rs s s.tasks.length
    have hno := judgeN_not s s.tasks.length
    have hjd : judgeS s = judgeN s s.tasks.length := rfl
    rw [← hjd] at hacc hrs hno
    have hbd : (judgeS s).how = 1 → ∀ k (h : k < s.tasks.length) (h' : k < (judgeS s).rs.length), (judgeS s).rs[k] ≤ s.tasks[k].D ∧ workL s.tasks[k].regs ≤ (judgeS s).rs[k] := fun h1 k h2 h3 => by
      have h4 := respS_bound hs h2 (hacc.1 h1 k h2)
      have h5 : (judgeS s).rs[k] = (respS s k).1 := by
        have := (hrs h1).2
        simp [this]
      rw [h5]
      exact h4
    have hll : (judgeS s).how = 1 → (judgeS s).rs.length = s.tasks.length := fun h => by rw [(hrs h).2]; simp
    have htk : (judgeS s).how = 1 → (judgeS s).task = 0 := fun h => (hrs h).1
    generalize judgeS s = d at hJ hno hbd hll htk
    have HB := Lib.hid hbd
    have HLL := Lib.hid hll
    have HTK := Lib.hid htk
    have HNO := Lib.hid hno
    clear hin hal hj he hacc hrs hjd hbd hll htk hno
    obtain ⟨dh, dt, drs⟩ := d
    unfold vdV at hJ
    dsimp only at hJ HB HLL HTK HNO
    have hc1 := hc w1 hX1
    go_wp2_with (fail)
    refine hJ.mono ?_
    rintro e w2 ⟨r2, rfl, hO, hb2⟩
    have hX2 := hX1.call hb2
    obtain ⟨A2, c2, rfl, _, _⟩ := OwnL.form hO
    have hI2 : Ints w2 (.slice A2 drs.length c2) drs := hO.ints
    clear hc1 hO hb2
    go_upto_region 4 with (fail)
    have hX3 := hX2.alloc (.cells #[.int .i64 dh, .int .i64 dt, .slice A2 drs.length c2] 44)
    have hV : Blk (w2.alloc (.cells #[.int .i64 dh, .int .i64 dt, .slice A2 drs.length c2] 44)) w2.heap.size #[.int .i64 dh, .int .i64 dt, .slice A2 drs.length c2] 44 := Blk.new _ _ _
    have hI3 := hI2.ext ((Ext.refl w2).alloc (.cells #[.int .i64 dh, .int .i64 dt, .slice A2 drs.length c2] 44))
    generalize w2.heap.size = gv at hV ⊢
    generalize w2.alloc _ = w3 at hX3 hV hI3 ⊢
    have hcV := hV.under
    have hcV3 := hcV w3 (Ext.refl w3)
    have hc3 := hc w3 hX3
    have hc3u := fun W' (h : Ext w3 W') => hc W' (hX3.trans h)
    have HK3 := Lib.hid fun W' (h : Ext w3 W') => HK.out W' (hX3.trans h)
    by_cases hh : dh = 1
    · have hl := HLL.out hh
      have ht := HTK.out hh
      subst hh
      subst ht
      have HL := Lib.hid hl
      go_upto_region 8 with (fail)
      clear hc3 hcV3
      have hrd : (drs.length : Int) = (s.tasks.length : Int) := by rw [hl]
      rw [hl] at hcV
      refine wp_region_all' (S := Ext w3) (Ext.refl w3) (fun K hK => ?_); (repeat (first | (apply hO_and; (· rfl); (· rfl); (· rfl); (· rfl); simp only [Act.put, List.setIfInBounds_toArray, List.set_cons_zero, List.set_cons_succ]) | (apply hO_or; (· rfl); (· rfl); (· rfl); (· rfl); simp only [Act.put, List.setIfInBounds_toArray, List.set_cons_zero, List.set_cons_succ]) | (apply hO_off; (· rfl); (· rfl); simp only [Act.put, List.setIfInBounds_toArray, List.set_cons_zero, List.set_cons_succ]) | (apply hO_val; (· intro w hS; go_simp; with_reducible rfl); (· rfl); simp only [Act.put, List.setIfInBounds_toArray, List.set_cons_zero, List.set_cons_succ]) | (apply hO_call; (· rfl); (· intro w hS; go_simp; exact ⟨rfl, rfl⟩); (· intro w hS; fail); simp only [Act.put, List.setIfInBounds_toArray, List.set_cons_zero, List.set_cons_succ]) | (apply hO_if; (· rfl); (· rfl); (· intro hif w hS; go_simp; with_reducible rfl); simp only [Act.put, List.setIfInBounds_toArray, List.set_cons_zero, List.set_cons_succ]) | (apply hO_ifcall; (· rfl); (· rfl); (· intro hif w hS; go_simp; exact ⟨rfl, rfl⟩); (· intro hif w hS; fail); simp only [Act.put, List.setIfInBounds_toArray, List.set_cons_zero, List.set_cons_succ]))); refine hO_nil ?_; refine forget_range 44 11 (Nat.le_of_ble_eq_true rfl) (fun junk => ?_); simp only [List.take_succ_cons, List.take_zero, List.drop_succ_cons, List.drop_zero, List.cons_append, List.nil_append, fillF, Nat.reduceAdd]; refine hK _ ?_; clear hK K
      intro w4 hX4
      have hc4 := hc3u w4 hX4
      have hcV4 := hcV w4 hX4
      go_wp2_with (fail)
      clear hc4 hcV4
      go_loopw [5] (fun i wr => ∃ k : Nat, k ≤ s.tasks.length ∧ i = .int .i64 k ∧ Ext w3 wr) (fun i _ => s.tasks.length - (intOf i).toNat)
      case atStart => exact ⟨0, Nat.zero_le _, rfl, hX4⟩
      case round =>
        obtain ⟨k, hk, rfl, hX⟩ := hrel
        have hcVr := hcV wr hX
        have hcr := hc3u wr hX
        by_cases hlt : k < s.tasks.length
        · obtain ⟨b, o, r, rfl, hxk⟩ := hr.at hlt
          have hkd : k < drs.length := by rw [HL.out]; exact hlt
          obtain ⟨b2, o2, rfl, hy⟩ := hI3.at hkd
          have hbd := HB.out trivial k hlt hkd
          have HW := Lib.hid fun W' (h : Ext w3 W') => workR_any s.tasks[k] r W' (hxk.1.ext (hX3.trans h))
          have hrow := hxk.row
          have hxe := hxk.ext hX3
          generalize s.tasks[k] = t at hxk HW hrow hbd hxe
          generalize drs[k] = z at hy hbd
          unfold tskV at HW
          obtain ⟨A3, c3, rfl⟩ := hrow
          obtain ⟨x0, x1, x2, x3, x4, x5, x6, x7, x8⟩ := hxe.under
          generalize workL t.regs = wk at HW hbd
          have hd : (decide (t.D < z) || decide (z < wk)) = false := by simp; omega
          clear hbd hxk hxe
          go_upto_region 13 with (fail)
          clear hcVr hcr
          refine wp_region_all (S := Ext w3) (by kernel_rfl) (by kernel_rfl) hX.drew (fun K hK => ?_); (repeat (first | (apply hO_and; (· rfl); (· rfl); (· rfl); (· rfl); simp only [Act.put, List.setIfInBounds_toArray, List.set_cons_zero, List.set_cons_succ]) | (apply hO_or; (· rfl); (· rfl); (· rfl); (· rfl); simp only [Act.put, List.setIfInBounds_toArray, List.set_cons_zero, List.set_cons_succ]) | (apply hO_off; (· rfl); (· rfl); simp only [Act.put, List.setIfInBounds_toArray, List.set_cons_zero, List.set_cons_succ]) | (apply hO_val; (· intro w hS; go_simp; with_reducible rfl); (· rfl); simp only [Act.put, List.setIfInBounds_toArray, List.set_cons_zero, List.set_cons_succ]) | (apply hO_call; (· rfl); (· intro w hS; go_simp; exact ⟨rfl, rfl⟩); (· intro w hS; exact callX hS (HW.out _ hS)); simp only [Act.put, List.setIfInBounds_toArray, List.set_cons_zero, List.set_cons_succ]) | (apply hO_if; (· rfl); (· rfl); (· intro hif w hS; go_simp; with_reducible rfl); simp only [Act.put, List.setIfInBounds_toArray, List.set_cons_zero, List.set_cons_succ]) | (apply hO_ifcall; (· rfl); (· rfl); (· intro hif w hS; go_simp; exact ⟨rfl, rfl⟩); (· intro hif w hS; exact callX hS (HW.out _ hS)); simp only [Act.put, List.setIfInBounds_toArray, List.set_cons_zero, List.set_cons_succ]))); refine hO_nil ?_; refine forget_range 63 25 (Nat.le_of_ble_eq_true rfl) (fun junk => ?_); simp only [List.take_succ_cons, List.take_zero, List.drop_succ_cons, List.drop_zero, List.cons_append, List.nil_append, fillF, Nat.reduceAdd]; refine hK _ ?_; clear hK K
          rw [hd]
          intro w5 hX5
          go_wp2_with (fail)
          exact ⟨⟨k + 1, hlt, rfl, hX5⟩, by simp [intOf]; omega⟩
        · have hke : k = s.tasks.length := Nat.le_antisymm hk (Nat.not_lt.1 hlt)
          subst hke
          go_wp2_with (fail)
          refine (HK3.out wr hX).mono ?_
          rintro e w5 ⟨rfl, hb5⟩
          go_wp2_with (fail)
          go_ret
          exact ⟨rfl, hL.trans ((hX3.trans (hX.call hb5)).below.mono hL.size)⟩
    · have hn := HNO.out hh
      obtain ⟨hn1, hn2, hn3⟩ := hn
      subst hn1
      go_wp2_with (fail)
      refine (HK3.out w3 (Ext.refl w3)).mono ?_
      rintro e w4 ⟨rfl, hb4⟩
      go_wp2_with (fail)
      go_ret
      exact ⟨by first | rfl | (simp; done) | (simp; omega), hL.trans ((hX3.call hb4).below.mono hL.size)⟩
end Go.Proofs.YtknfdjnbndfboaaDoor
