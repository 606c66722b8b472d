/- TolerTells. -/
import Derived.Test.YtknfdjnbndfboaaDoorProg
import Derived.Test.YtknfdjnbndfboaaDoorBase
import Derived.Test.YtknfdjnbndfboaaDoorBase2
import Derived.Test.YtknfdjnbndfboaaDoorHeld
import Derived.Test.YtknfdjnbndfboaaDoorHeldX
import Derived.Test.YtknfdjnbndfboaaDoorApp
import Derived.Test.YtknfdjnbndfboaaDoorAppX
import Derived.Test.YtknfdjnbndfboaaDoorTsk1
import Derived.Test.YtknfdjnbndfboaaDoorTsk3
import Derived.Test.YtknfdjnbndfboaaDoorTskZ
import Derived.Test.YtknfdjnbndfboaaDoorTskD
import Derived.Test.YtknfdjnbndfboaaDoorTskP
import Derived.Test.YtknfdjnbndfboaaDoorTskA
import Derived.Test.YtknfdjnbndfboaaDoorTskO
import Derived.Test.YtknfdjnbndfboaaDoorSetO
import Derived.Test.YtknfdjnbndfboaaDoorRespS
import Derived.Test.YtknfdjnbndfboaaDoorResp
import Derived.Test.YtknfdjnbndfboaaDoorTol
import Derived.Test.YtknfdjnbndfboaaDoorTolA
import Derived.Test.YtknfdjnbndfboaaDoorTolI
import Derived.Test.YtknfdjnbndfboaaDoorTolP
import Derived.Test.YtknfdjnbndfboaaDoorTol14
import Derived.Test.YtknfdjnbndfboaaDoorLaw14k
import Derived.Test.YtknfdjnbndfboaaDoorLaw14a
import Derived.Deep.Cut
import Derived.Lib.Hide
namespace Go.Proofs.YtknfdjnbndfboaaDoor
open Go.RowKit
attribute [local go_sem] setCell_twice ByteArray.toList_eq str_list Ext.alloc Ext.drew
set_option linter.unusedSimpArgs false
set_option maxRecDepth 100000
set_option maxHeartbeats 6400000
attribute [local irreducible] popN

theorem tolI_out {s : TSet} {i : Int} (h : ¬ (0 ≤ i ∧ i < s.tasks.length)) : tolI s i = none := by
  unfold tolI
  rw [if_neg (fun hc => h hc.1)]
theorem tolerTells_walk (v : Value) (s : TSet) (i : Int) (w : World) (hv : ∃ x, v = setV s x ∧ Tasks w x s.tasks ∧ s.fit) (_ : (Lit.int .i64 i).wf = true) (hG : GOK w) :
    Calls Tryd.prog 6 #[v, .int .i64 i] w fun e w' => e = .returned (.bool true) ∧ Below w.heap.size w w' := by
  obtain ⟨x, rfl, hx, hf⟩ := hv
  have l1 := hx.len
  have hg := hf.good
  have hx0 := hx
  obtain ⟨A, c, rfl, hle, hcm, _⟩ := hx0
  unfold maxLen at hcm
  go_enter Tryd.func6, Tryd.ntmps6
  unfold setV
  go_upto_region 1 with (fail)
  have hL : Below w.heap.size w (w.alloc (.cells #[.int .i64 s.reload, (.slice A s.tasks.length c)] 24)) := (by repeat (first | exact Below.refl _ _ | assumption | refine Below.drew ?_ | refine Below.alloc ?_ (by first | (simp; done) | (simp; omega) | omega) _ | refine Below.setCell ?_ (by first | (simp; done) | (simp; omega) | omega) _)); have hB : Blk (w.alloc (.cells #[.int .i64 s.reload, (.slice A s.tasks.length c)] 24)) w.heap.size #[.int .i64 s.reload, (.slice A s.tasks.length c)] 24 := Blk.new _ _ _
  have hr := hx.ext ⟨hL⟩
  have hG0 := hG.below hL
  generalize w.alloc _ = W at hL hB hr hG0 ⊢
  have hc := hB.under
  have hc0 := hc W (Ext.refl W)
  have HK := Lib.hid fun (W' : World) (h : Ext W W') => known14_any W' (hG0.below h.below)
  go_wp2_with (fail)
  refine (may14_any s _ _ hr hg).mono ?_
  rintro e w1 ⟨rfl, hb1⟩
  have hX1 : Ext W w1 := ⟨hb1⟩
  clear hc0 hb1
  cases hm : may14 s with
  | false =>
    go_wp2_with (fail)
    go_ret
    exact ⟨rfl, hL.trans (hX1.below.mono hL.size)⟩
  | true =>
    have hal := may14_all hm
    have hs := fine_of hal hf
    have hlen := hs.len
    have hts : tolS s = tolL s s.tasks.length := by unfold tolS; rw [hal]; rfl
    have HA := Lib.hid fun (W' : World) (h : Ext W W') => tolerAll_any s (.slice A s.tasks.length c) W' (hr.ext h) hf (hG0.below h.below)
    have HB := Lib.hid fun (W' : World) (h : Ext W W') => ref14All_any s (.slice A s.tasks.length c) W' (hr.ext h) hs
    have HO := Lib.hid fun (W' : World) (h : Ext W W') => tolerOf_any s (.slice A s.tasks.length c) i W' (hr.ext h) hf (hG0.below h.below)
    rw [hts] at HA
    generalize tolL s s.tasks.length = L at HA HB
    clear hm hts
    have hc1 := hc w1 hX1
    go_wp2_with (fail)
    refine (HA.out w1 hX1).mono ?_
    rintro e w2 ⟨v2, rfl, hO2, hb2⟩
    have hX2 := hX1.call hb2
    have hI2 := hO2.ints
    have hc2 := hc w2 hX2
    clear hc1 hb2 hO2
    go_wp2_with (fail)
    refine (HB.out w2 hX2).mono ?_
    rintro e w3 ⟨v3, rfl, hO3, hb3⟩
    have hX3 := hX2.call hb3
    have hI3 := hO3.ints
    have hI2 := hI2.ext ⟨hb3⟩
    have hc3 := hc w3 hX3
    clear hc2 hb3 hO3
    obtain ⟨A2, c2, rfl, _, _, _⟩ := id hI2
    obtain ⟨A3, c3, rfl, _, _, _⟩ := id hI3
    generalize L.isSome = ok
    go_wp2_with (fail)
    refine (nums_any _ _ _ _ w3 hI2 hI3).mono ?_
    rintro e w4 ⟨rfl, hb4⟩
    rw [decide_eq_true (rfl : L.getD [] = L.getD [])]
    have hX4 : Ext W w4 := by first | exact hX3.call hb4 | (subst hb4; exact hX3)
    clear hc3 hI2 hI3 hb4
    by_cases hin : 0 ≤ i ∧ i < s.tasks.length
    · obtain ⟨k, rfl⟩ := Int.eq_ofNat_of_zero_le hin.1
      have hk : k < s.tasks.length := by omega
      have HR := Lib.hid fun (W' : World) (h : Ext W W') => ref14Of_any s (.slice A s.tasks.length c) k W' (hr.ext h) hs hk
      rw [tolI_in hal hk] at HO
      obtain ⟨n, b, hn⟩ := optN_tup (tolO s k)
      rw [hn] at HO HR
      clear hn hal
      cases ok
      all_goals
        go_upto_region 7 with (fail)
        refine wp_region_all' (S := Ext W) hX4 (fun K hK => ?_); (repeat (first | (apply hO_and; (· rfl); (· rfl); (· rfl); (· rfl); simp only [Act.put, List.setIfInBounds_toArray, List.set_cons_zero, List.set_cons_succ]) | (apply hO_or; (· rfl); (· rfl); (· rfl); (· rfl); simp only [Act.put, List.setIfInBounds_toArray, List.set_cons_zero, List.set_cons_succ]) | (apply hO_off; (· rfl); (· rfl); simp only [Act.put, List.setIfInBounds_toArray, List.set_cons_zero, List.set_cons_succ]) | (apply hO_val; (· intro w hS; go_simp; with_reducible rfl); (· rfl); simp only [Act.put, List.setIfInBounds_toArray, List.set_cons_zero, List.set_cons_succ]) | (apply hO_call; (· rfl); (· intro w hS; go_simp; exact ⟨rfl, rfl⟩); (· intro w hS; fail); simp only [Act.put, List.setIfInBounds_toArray, List.set_cons_zero, List.set_cons_succ]) | (apply hO_if; (· rfl); (· rfl); (· intro hif w hS; go_simp; with_reducible rfl); simp only [Act.put, List.setIfInBounds_toArray, List.set_cons_zero, List.set_cons_succ]) | (apply hO_ifcall; (· rfl); (· rfl); (· intro hif w hS; go_simp; exact ⟨rfl, rfl⟩); (· intro hif w hS; fail); simp only [Act.put, List.setIfInBounds_toArray, List.set_cons_zero, List.set_cons_succ]))); refine hO_nil ?_; refine forget_range 37 8 (Nat.le_of_ble_eq_true rfl) (fun junk => ?_); simp only [List.take_succ_cons, List.take_zero, List.drop_succ_cons, List.drop_zero, List.cons_append, List.nil_append, fillF, Nat.reduceAdd]; refine hK _ ?_; clear hK K
        intro w5 hX5
        have hd : (decide ((k : Int) < 0) || decide (s.tasks.length ≤ k)) = false := by simp; omega
        rw [hd]
        have hc5 := hc w5 hX5
        clear hd
        go_wp2_with (fail)
        refine (HO.out w5 hX5).mono ?_
        rintro e w6 ⟨rfl, hb6⟩
        have hX6 := hX5.call hb6
        have hc6 := hc w6 hX6
        clear hc5
        go_wp2_with (fail)
        refine (HR.out w6 hX6).mono ?_
        rintro e w7 ⟨rfl, hb7⟩
        have hX7 := hX6.call hb7
        clear hc6
        go_wp2_with (fail)
        refine (HK.out w7 hX7).mono ?_
        rintro e w8 ⟨rfl, hb8⟩
        go_wp2_with (fail)
        go_ret
        exact ⟨rfl, hL.trans ((hX7.call hb8).below.mono hL.size)⟩
    · rw [tolI_out hin] at HO
      unfold optN at HO
      clear hal
      cases ok
      all_goals
        go_upto_region 7 with (fail)
        refine wp_region_all' (S := Ext W) hX4 (fun K hK => ?_); (repeat (first | (apply hO_and; (· rfl); (· rfl); (· rfl); (· rfl); simp only [Act.put, List.setIfInBounds_toArray, List.set_cons_zero, List.set_cons_succ]) | (apply hO_or; (· rfl); (· rfl); (· rfl); (· rfl); simp only [Act.put, List.setIfInBounds_toArray, List.set_cons_zero, List.set_cons_succ]) | (apply hO_off; (· rfl); (· rfl); simp only [Act.put, List.setIfInBounds_toArray, List.set_cons_zero, List.set_cons_succ]) | (apply hO_val; (· intro w hS; go_simp; with_reducible rfl); (· rfl); simp only [Act.put, List.setIfInBounds_toArray, List.set_cons_zero, List.set_cons_succ]) | (apply hO_call; (· rfl); (· intro w hS; go_simp; exact ⟨rfl, rfl⟩); (· intro w hS; fail); simp only [Act.put, List.setIfInBounds_toArray, List.set_cons_zero, List.set_cons_succ]) | (apply hO_if; (· rfl); (· rfl); (· intro hif w hS; go_simp; with_reducible rfl); simp only [Act.put, List.setIfInBounds_toArray, List.set_cons_zero, List.set_cons_succ]) | (apply hO_ifcall; (· rfl); (· rfl); (· intro hif w hS; go_simp; exact ⟨rfl, rfl⟩); (· intro hif w hS; fail); simp only [Act.put, List.setIfInBounds_toArray, List.set_cons_zero, List.set_cons_succ]))); refine hO_nil ?_; refine forget_range 37 8 (Nat.le_of_ble_eq_true rfl) (fun junk => ?_); simp only [List.take_succ_cons, List.take_zero, List.drop_succ_cons, List.drop_zero, List.cons_append, List.nil_append, fillF, Nat.reduceAdd]; refine hK _ ?_; clear hK K
        intro w5 hX5
        have hd : (decide (i < 0) || decide ((s.tasks.length : Int) ≤ i)) = true := by simp; omega
        rw [hd]
        have hc5 := hc w5 hX5
        clear hd
        go_wp2_with (fail)
        refine (HO.out w5 hX5).mono ?_
        rintro e w6 ⟨rfl, hb6⟩
        have hX6 := hX5.call hb6
        clear hc5
        go_wp2_with (fail)
        refine (HK.out w6 hX6).mono ?_
        rintro e w8 ⟨rfl, hb8⟩
        go_wp2_with (fail)
        go_ret
        exact ⟨rfl, hL.trans ((hX6.call hb8).below.mono hL.size)⟩
end Go.Proofs.YtknfdjnbndfboaaDoor
