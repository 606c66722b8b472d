/- SpreadFall. -/
import Derived.Test.YtknfdjnbndfboabDoorProg
import Derived.Test.YtknfdjnbndfboabDoorBase
import Derived.Test.YtknfdjnbndfboabDoorHeldX
import Derived.Test.YtknfdjnbndfboabDoorApp
import Derived.Test.YtknfdjnbndfboabDoorTsk1
import Derived.Test.YtknfdjnbndfboabDoorTsk3
import Derived.Test.YtknfdjnbndfboabDoorTsk4
import Derived.Test.YtknfdjnbndfboabDoorTskZ
import Derived.Test.YtknfdjnbndfboabDoorTskP
import Derived.Test.YtknfdjnbndfboabDoorTskA
import Derived.Test.YtknfdjnbndfboabDoorTskO
import Derived.Test.YtknfdjnbndfboabDoorSetO
import Derived.Test.YtknfdjnbndfboabDoorRespS
import Derived.Test.YtknfdjnbndfboabDoorResp
import Derived.Test.YtknfdjnbndfboabDoorTolA
import Derived.Test.YtknfdjnbndfboabDoorTolP
import Derived.Test.YtknfdjnbndfboabDoorSprO
import Derived.Test.YtknfdjnbndfboabDoorSprP
import Derived.Test.YtknfdjnbndfboabDoorSprL
import Derived.Test.YtknfdjnbndfboabDoorLaw15k
import Derived.Deep.Cut
import Derived.Lib.Hide
namespace Go.Proofs.YtknfdjnbndfboabDoor
open Go.RowKit
attribute [local go_sem] setCell_twice ByteArray.toList_eq str_list Ext.alloc Ext.drew
set_option linter.unusedSimpArgs false
set_option maxRecDepth 100000
set_option maxHeartbeats 6400000
attribute [local irreducible] popN Calls

theorem Spread.fall {s : TSet} {qs bs : List Int} (h : Spread s qs bs) (i : Nat) (hi : i + 2 < qs.length) : qs[i + 2] ≤ qs[i + 1] := by
  rw [h.at (i + 2) hi, h.at (i + 1) (by omega)]
  show min (minAt bs i) (bs.getD (i + 1) 0) ≤ minAt bs i
  omega
theorem spreadFall_walk (v : Value) (s : TSet) (w : World) (hv : ∃ x, v = setV s x ∧ Tasks w x s.tasks ∧ s.fit) (hG : GOK w) :
    Calls Tryd.prog 3 #[v] w fun e w' => e = .returned (.bool true) ∧ Below w.heap.size w w' := by
  obtain ⟨x, rfl, hx, hf⟩ := hv
  have l1 := hx.len
  have hg := hf.good
  have hx0 := hx
  obtain ⟨A, c, rfl, hle, hcm, _⟩ := hx0
  unfold maxLen at hcm
  go_enter Tryd.func3, Tryd.ntmps3
  unfold setV
  go_upto_region 1 with (fail)
  have hL : Below w.heap.size w (w.alloc (.cells #[.int .i64 s.reload, (.slice A s.tasks.length c)] 24)) := (by repeat (first | exact Below.refl _ _ | assumption | refine Below.drew ?_ | refine Below.alloc ?_ (by first | (simp; done) | (simp; omega) | omega) _ | refine Below.setCell ?_ (by first | (simp; done) | (simp; omega) | omega) _)); have hB : Blk (w.alloc (.cells #[.int .i64 s.reload, (.slice A s.tasks.length c)] 24)) w.heap.size #[.int .i64 s.reload, (.slice A s.tasks.length c)] 24 := Blk.new _ _ _
  have hr := hx.ext ⟨hL⟩
  have hG0 := hG.below hL
  generalize w.alloc _ = W at hL hB hr hG0 ⊢
  have hc := hB.under
  have hc0 := hc W (Ext.refl W)
  have HK := Lib.hid fun (W' : World) (h : Ext W W') => known15_any W' (hG0.below h.below)
  go_wp2_with (fail)
  refine (may15_any s _ _ hr hg).mono ?_
  rintro e w1 ⟨rfl, hb1⟩
  have hX1 : Ext W w1 := ⟨hb1⟩
  clear hc0 hb1
  cases hm : may14 s with
  | false =>
    go_wp2_with (fail)
    go_ret
    exact ⟨rfl, hL.trans (hX1.below.mono hL.size)⟩
  | true =>
    have hA := spreadOf_any s (.slice A s.tasks.length c) w1 (hr.ext hX1) hf (hG0.below hX1.below)
    have hc1 := hc w1 hX1
    clear hm
    cases ho : spreadQ s with
    | none =>
      rw [ho] at hA
      have hA : Calls Tryd.prog 7 #[setV s (.slice A s.tasks.length c)] w1 fun e w' => ∃ v', e = .returned (.tuple #[v', .bool false]) ∧ RowI w' w1.heap.size v' [] ∧ Below w1.heap.size w1 w' := hA
      clear ho
      go_wp2_with (fail)
      refine hA.mono ?_
      rintro e w2 ⟨v2, rfl, hO, hb2⟩
      have hX2 := hX1.call hb2
      obtain ⟨Av, cv, rfl, _, _⟩ := OwnL.form hO
      clear hO hc1
      go_wp2_with (fail)
      refine (HK.out w2 hX2).mono ?_
      rintro e w4 ⟨rfl, hb4⟩
      go_wp2_with (fail)
      go_ret
      exact ⟨rfl, hL.trans ((hX2.call hb4).below.mono hL.size)⟩
    | some qs =>
      rw [ho] at hA
      obtain ⟨bs, hS⟩ := Spread.of hf ho
      have hA : Calls Tryd.prog 7 #[setV s (.slice A s.tasks.length c)] w1 fun e w' => ∃ v', e = .returned (.tuple #[v', .bool true]) ∧ RowI w' w1.heap.size v' qs ∧ Below w1.heap.size w1 w' := hA
      have hql := hS.qlen
      have hlen := hS.fine.len
      have HF := Lib.hid fun i hi => hS.fall i hi
      have hq0 : qs[0]'(by omega) = workL (s.tasks[0]'(by omega)).regs := by
        rw [hS.at 0 (by omega)]
        exact workH_eq (by omega)
      clear ho hS
      go_wp2_with (fail)
      refine hA.mono ?_
      rintro e w2 ⟨v2, rfl, hO, hb2⟩
      have hX2 := hX1.call hb2
      obtain ⟨Av, cv, rfl, hcv1, hcv2⟩ := OwnL.form hO
      have hI2 : Ints w2 (.slice Av s.tasks.length cv) qs := by rw [← hql]; exact hO.ints
      have hcv3 : s.tasks.length ≤ cv := by omega
      have hcx := fun W' (h : Ext w2 W') => hc W' (hX2.trans h)
      have HK2 := Lib.hid fun W' (h : Ext w2 W') => HK.out W' (hX2.trans h)
      obtain ⟨bq, oq, rfl, hyq⟩ := hI2.at (k := 0) (by omega)
      have hy0 : ∀ w', Ext w2 w' → w'.cell? ⟨bq, oq, none⟩ = some (.int .i64 (qs[0]'(by omega))) := hyq
      clear hyq
      obtain ⟨b0, o0, r0, rfl, ht⟩ := hr.at (show 0 < s.tasks.length by omega)
      have ht2 := ht.ext hX2
      have HW := Lib.hid fun W' (h : Ext w2 W') => workR_any (s.tasks[0]'(by omega)) r0 W' (ht2.1.ext h)
      rw [← hq0] at HW
      have HQL := Lib.hid hql
      clear hO hb2 hc1 hq0
      have hrow := ht2.row
      generalize s.tasks[0]'(by omega) = t at ht2 HW hrow
      generalize hz : qs[0]'(by omega) = z at HW hy0
      unfold tskV at HW
      obtain ⟨A3, c3, rfl⟩ := hrow
      obtain ⟨x0, x1, x2, x3, x4, x5, x6, x7, x8⟩ := ht2.under
      simp only [Nat.zero_mul, Nat.add_zero] at x0 x1 x2 x3 x4 x5 x6 x7 x8
      rw [hql]
      clear hz hql ht ht2
      go_wp2_with (fail)
      go_loopw [5] (fun i wr => ∃ k : Nat, 2 ≤ k ∧ i = .int .i64 k ∧ Ext w2 wr) (fun i _ => s.tasks.length - (intOf i).toNat)
      case atStart => exact ⟨2, Nat.le_refl _, rfl, Ext.refl w2⟩
      case round =>
        obtain ⟨k, hk2, rfl, hX⟩ := hrel
        by_cases hlt : k < s.tasks.length
        · have hkq : k < qs.length := by rw [HQL.out]; exact hlt
          obtain ⟨b5, o5, e5, hy⟩ := hI2.at hkq
          obtain ⟨rfl, rfl⟩ : b5 = bq ∧ o5 = oq := by cases e5; exact ⟨rfl, rfl⟩
          obtain ⟨b6, o6, e6, hyp⟩ := hI2.at (k := k - 1) (by omega)
          obtain ⟨rfl, rfl⟩ : b6 = b5 ∧ o6 = o5 := by cases e6; exact ⟨rfl, rfl⟩
          have hfl : qs[k] ≤ qs[k - 1]'(by omega) := by
            obtain ⟨p, rfl⟩ : ∃ p, k = p + 2 := ⟨k - 2, by omega⟩
            exact HF.out p hkq
          generalize qs[k] = za at hy hfl
          generalize qs[k - 1]'(by omega) = zb at hyp hfl
          have hyr := fun w' (h : Ext wr w') => hy w' (hX.trans h)
          have hypr := fun w' (h : Ext wr w') => hyp w' (hX.trans h)
          obtain ⟨k1, hk1⟩ : ∃ k1, k1 = k - 1 := ⟨_, rfl⟩
          have hk1i : (k : Int) - 1 = (k1 : Int) := by omega
          have hk1l : k1 < s.tasks.length := by omega
          have hwk1 : IntKind.i64.wrap (k1 : Int) = (k1 : Int) := by rw [IntKind.wrap_i64]; omega
          rw [← hk1] at hypr
          clear hy hyp hk1 HF
          go_upto_region 9 with (fail)
          refine wp_region_all (S := Ext wr) (by kernel_rfl) (by kernel_rfl) (Ext.refl wr).drew (fun K hK => ?_); (repeat (first | (apply hO_and; (· rfl); (· rfl); (· rfl); (· rfl); simp only [Act.put, List.setIfInBounds_toArray, List.set_cons_zero, List.set_cons_succ]) | (apply hO_or; (· rfl); (· rfl); (· rfl); (· rfl); simp only [Act.put, List.setIfInBounds_toArray, List.set_cons_zero, List.set_cons_succ]) | (apply hO_off; (· rfl); (· rfl); simp only [Act.put, List.setIfInBounds_toArray, List.set_cons_zero, List.set_cons_succ]) | (apply hO_val; (· intro w hS; go_simp; with_reducible rfl); (· rfl); simp only [Act.put, List.setIfInBounds_toArray, List.set_cons_zero, List.set_cons_succ]) | (apply hO_call; (· rfl); (· intro w hS; go_simp; exact ⟨rfl, rfl⟩); (· intro w hS; fail); simp only [Act.put, List.setIfInBounds_toArray, List.set_cons_zero, List.set_cons_succ]) | (apply hO_if; (· rfl); (· rfl); (· intro hif w hS; go_simp; with_reducible rfl); simp only [Act.put, List.setIfInBounds_toArray, List.set_cons_zero, List.set_cons_succ]) | (apply hO_ifcall; (· rfl); (· rfl); (· intro hif w hS; go_simp; exact ⟨rfl, rfl⟩); (· intro hif w hS; fail); simp only [Act.put, List.setIfInBounds_toArray, List.set_cons_zero, List.set_cons_succ]))); refine hO_nil ?_; refine forget_range 28 9 (Nat.le_of_ble_eq_true rfl) (fun junk => ?_); simp only [List.take_succ_cons, List.take_zero, List.drop_succ_cons, List.drop_zero, List.cons_append, List.nil_append, fillF, Nat.reduceAdd]; refine hK _ ?_; clear hK K
          intro w5 hX5
          go_wp2_with (fail)
          exact ⟨⟨k + 1, by omega, rfl, hX.trans hX5⟩, by simp [intOf]; omega⟩
        · have hl0 : 0 < s.tasks.length := hlen.1
          go_upto_region 11 with (fail)
          have hXd := hX.drew
          refine wp_region_all (S := Ext w2) (by kernel_rfl) (by kernel_rfl) hXd (fun K hK => ?_); (repeat (first | (apply hO_and; (· rfl); (· rfl); (· rfl); (· rfl); simp only [Act.put, List.setIfInBounds_toArray, List.set_cons_zero, List.set_cons_succ]) | (apply hO_or; (· rfl); (· rfl); (· rfl); (· rfl); simp only [Act.put, List.setIfInBounds_toArray, List.set_cons_zero, List.set_cons_succ]) | (apply hO_off; (· rfl); (· rfl); simp only [Act.put, List.setIfInBounds_toArray, List.set_cons_zero, List.set_cons_succ]) | (apply hO_val; (· intro w hS; go_simp; with_reducible rfl); (· rfl); simp only [Act.put, List.setIfInBounds_toArray, List.set_cons_zero, List.set_cons_succ]) | (apply hO_call; (· rfl); (· intro w hS; go_simp; exact ⟨rfl, rfl⟩); (· intro w hS; first | exact callX hS (HW.out _ hS) | exact callX hS (HK2.out _ hS)); simp only [Act.put, List.setIfInBounds_toArray, List.set_cons_zero, List.set_cons_succ]) | (apply hO_if; (· rfl); (· rfl); (· intro hif w hS; go_simp; with_reducible rfl); simp only [Act.put, List.setIfInBounds_toArray, List.set_cons_zero, List.set_cons_succ]) | (apply hO_ifcall; (· rfl); (· rfl); (· intro hif w hS; go_simp; exact ⟨rfl, rfl⟩); (· intro hif w hS; first | exact callX hS (HW.out _ hS) | exact callX hS (HK2.out _ hS)); simp only [Act.put, List.setIfInBounds_toArray, List.set_cons_zero, List.set_cons_succ]))); refine hO_nil ?_; refine hK _ ?_; clear hK K
          intro w5 hX5
          go_wp2_with (fail)
          go_ret
          exact ⟨by first | rfl | (simp; done), hL.trans ((hX2.trans hX5).below.mono hL.size)⟩
end Go.Proofs.YtknfdjnbndfboabDoor
