/- toler.Of. -/
import Derived.Test.YtknfdjnbndfboaaDoorProg
import Derived.Test.YtknfdjnbndfboaaDoorBase
import Derived.Test.YtknfdjnbndfboaaDoorHeldX
import Derived.Test.YtknfdjnbndfboaaDoorApp
import Derived.Test.YtknfdjnbndfboaaDoorTsk1
import Derived.Test.YtknfdjnbndfboaaDoorTsk3
import Derived.Test.YtknfdjnbndfboaaDoorTskZ
import Derived.Test.YtknfdjnbndfboaaDoorTskP
import Derived.Test.YtknfdjnbndfboaaDoorTskA
import Derived.Test.YtknfdjnbndfboaaDoorTskO
import Derived.Test.YtknfdjnbndfboaaDoorSetO
import Derived.Test.YtknfdjnbndfboaaDoorRespS
import Derived.Test.YtknfdjnbndfboaaDoorResp
import Derived.Test.YtknfdjnbndfboaaDoorTolA
import Derived.Deep.Cut
import Derived.Lib.Hide
namespace Go.Proofs.YtknfdjnbndfboaaDoor
open Go.RowKit
attribute [local go_sem] setCell_twice ByteArray.toList_eq str_list Ext.alloc Ext.drew
set_option linter.unusedSimpArgs false
set_option maxRecDepth 100000
set_option maxHeartbeats 6400000
attribute [local irreducible] popN

theorem tolerOf_any (s : TSet) (v : Value) (i : Int) (w : World) (hv : Tasks w v s.tasks) (hf : s.fit) (hG : GOK w) :
    Calls Tryd.prog 11 #[setV s v, .int .i64 i] w fun e w' => e = .returned (optN (tolI s i)) ∧ Below w.heap.size w w' := by
  have l1 := hv.len
  have hg := hf.good
  have hv0 := hv
  obtain ⟨A, c, rfl, hle, hcm, _⟩ := hv0
  unfold maxLen at hcm
  go_enter Tryd.func11, Tryd.ntmps11
  unfold setV
  go_upto_region 1 with (fail)
  have hL : Below w.heap.size w (w.alloc (.cells #[.int .i64 s.reload, (.slice A s.tasks.length c)] 24)) := (by repeat (first | exact Below.refl _ _ | assumption | refine Below.drew ?_ | refine Below.alloc ?_ (by first | (simp; done) | (simp; omega) | omega) _ | refine Below.setCell ?_ (by first | (simp; done) | (simp; omega) | omega) _)); have hB : Blk (w.alloc (.cells #[.int .i64 s.reload, (.slice A s.tasks.length c)] 24)) w.heap.size #[.int .i64 s.reload, (.slice A s.tasks.length c)] 24 := Blk.new _ _ _
  have hr := hv.ext ⟨hL⟩
  have hG0 := hG.below hL
  generalize w.alloc _ = W at hL hB hr hG0 ⊢
  have hc := hB.under
  refine wp_region_all' (S := Ext W) (Ext.refl W) (fun K hK => ?_); (repeat (first | (apply hO_and; (· rfl); (· rfl); (· rfl); (· rfl); simp only [Act.put, List.setIfInBounds_toArray, List.set_cons_zero, List.set_cons_succ]) | (apply hO_or; (· rfl); (· rfl); (· rfl); (· rfl); simp only [Act.put, List.setIfInBounds_toArray, List.set_cons_zero, List.set_cons_succ]) | (apply hO_off; (· rfl); (· rfl); simp only [Act.put, List.setIfInBounds_toArray, List.set_cons_zero, List.set_cons_succ]) | (apply hO_val; (· intro w hS; go_simp; with_reducible rfl); (· rfl); simp only [Act.put, List.setIfInBounds_toArray, List.set_cons_zero, List.set_cons_succ]) | (apply hO_call; (· rfl); (· intro w hS; go_simp; exact ⟨rfl, rfl⟩); (· intro w hS; exact callX hS (all_any s _ _ (hr.ext hS) hg (hG0.below hS.below))); simp only [Act.put, List.setIfInBounds_toArray, List.set_cons_zero, List.set_cons_succ]) | (apply hO_if; (· rfl); (· rfl); (· intro hif w hS; go_simp; with_reducible rfl); simp only [Act.put, List.setIfInBounds_toArray, List.set_cons_zero, List.set_cons_succ]) | (apply hO_ifcall; (· rfl); (· rfl); (· intro hif w hS; go_simp; exact ⟨rfl, rfl⟩); (· intro hif w hS; exact callX hS (all_any s _ _ (hr.ext hS) hg (hG0.below hS.below))); simp only [Act.put, List.setIfInBounds_toArray, List.set_cons_zero, List.set_cons_succ]))); refine hO_nil ?_; refine forget_range 6 13 (Nat.le_of_ble_eq_true rfl) (fun junk => ?_); simp only [List.take_succ_cons, List.take_zero, List.drop_succ_cons, List.drop_zero, List.cons_append, List.nil_append, fillF, Nat.reduceAdd]; refine hK _ ?_; clear hK K
  intro w1 hX1
  by_cases hin : (0 ≤ i ∧ i < s.tasks.length) ∧ allB s = true
  · have hti : tolI s i = tolO s i.toNat := by unfold tolI; rw [if_pos hin]
    obtain ⟨⟨h0, h1⟩, hal⟩ := hin
    have hd : (decide (i < 0) || decide ((s.tasks.length : Int) ≤ i) || !allB s) = false := by rw [hal]; simp; omega
    rw [hd]
    obtain ⟨k, rfl⟩ := Int.eq_ofNat_of_zero_le h0
    have hs := fine_of hal hf
    have hT := tolOf_any s (.slice A s.tasks.length c) k w1 (hr.ext hX1) hs (by omega)
    have hc1 := (hB.ext hX1).cell
    rw [Int.toNat_natCast] at hti
    obtain ⟨n, ok, hn⟩ := optN_tup (tolO s k)
    rw [hn] at hT
    rw [← hti] at hn
    have HN := Lib.hid hn
    clear hn hti hd
    go_wp2_with (fail)
    refine hT.mono ?_
    rintro e w2 ⟨rfl, hb⟩
    go_wp2_with (fail)
    exact bodyPost_ret (v := .tuple #[.int .i64 n, .bool ok]) (by simp [results, Tryd.results11, go_sem, *]) rfl ⟨by rw [HN.out], hL.trans ((hX1.call hb).below.mono hL.size)⟩
  · have hti : tolI s i = none := by unfold tolI; rw [if_neg hin]
    have hd : (decide (i < 0) || decide ((s.tasks.length : Int) ≤ i) || !allB s) = true := by
      cases hal : allB s with
      | false => simp
      | true =>
        rw [hal] at hin
        simp only [and_true] at hin
        simp
        omega
    rw [hd]
    have HN := Lib.hid hti
    clear hti hd
    go_wp2_with (fail)
    exact bodyPost_ret (v := optN none) (by simp [optN, results, Tryd.results11, go_sem, *]) rfl ⟨by rw [HN.out], hL.trans (hX1.below.mono hL.size)⟩
end Go.Proofs.YtknfdjnbndfboaaDoor
