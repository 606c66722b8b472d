/- again: is, ticks, Own. -/
import Derived.Test.YtknfdjnbndfboabGreatDoorProg
import Derived.Test.YtknfdjnbndfboabGreatDoorBase
import Derived.Test.YtknfdjnbndfboabGreatDoorHeldX
import Derived.Test.YtknfdjnbndfboabGreatDoorTsk1
import Derived.Test.YtknfdjnbndfboabGreatDoorTsk3
import Derived.Test.YtknfdjnbndfboabGreatDoorTskZ
import Derived.Test.YtknfdjnbndfboabGreatDoorNumP
import Derived.Test.YtknfdjnbndfboabGreatDoorBit
import Derived.Test.YtknfdjnbndfboabGreatDoorNum
import Derived.Test.YtknfdjnbndfboabGreatDoorCst
import Derived.Deep.Cut
import Derived.Lib.Hide
import Derived.Laws.Bits64b
namespace Go.Proofs.YtknfdjnbndfboabGreatDoor
open Go.RowKit
attribute [local go_sem] setCell_twice ByteArray.toList_eq str_list Ext.alloc Ext.drew
set_option linter.unusedSimpArgs false
set_option maxRecDepth 100000
set_option maxHeartbeats 6400000
attribute [local irreducible] popN

theorem againIs_any (s : TSet) (v : Value) (i : Int) (w : World) (hv : Tasks w v s.tasks) :
    Calls Tryz.prog 29 #[setV s v, .int .i64 i] w fun e w' => e = .returned (.bool (decide (0 ≤ i) && decide (i < s.tasks.length))) ∧ Below w.heap.size w w' := by
  have l1 := hv.len
  have hv0 := hv
  obtain ⟨A, c, rfl, _, _, _⟩ := hv0
  go_enter Tryz.func29, Tryz.ntmps29
  unfold setV
  go_upto_region 1 with (fail)
  have hL : Below w.heap.size w (w.alloc (.cells #[.int .i64 s.reload, (.slice A s.tasks.length c)] 24)) := (by repeat (first | exact Below.refl _ _ | assumption | refine Below.drew ?_ | refine Below.alloc ?_ (by first | (simp; done) | (simp; omega) | omega) _ | refine Below.setCell ?_ (by first | (simp; done) | (simp; omega) | omega) _)); have hB : Blk (w.alloc (.cells #[.int .i64 s.reload, (.slice A s.tasks.length c)] 24)) w.heap.size #[.int .i64 s.reload, (.slice A s.tasks.length c)] 24 := Blk.new _ _ _
  generalize w.alloc _ = W at hL hB  ⊢
  have hc := hB.under
  refine wp_region_all' (S := Ext W) (Ext.refl W) (fun K hK => ?_); (repeat (first | (apply hO_and; (· rfl); (· rfl); (· rfl); (· rfl); simp only [Act.put, List.setIfInBounds_toArray, List.set_cons_zero, List.set_cons_succ]) | (apply hO_or; (· rfl); (· rfl); (· rfl); (· rfl); simp only [Act.put, List.setIfInBounds_toArray, List.set_cons_zero, List.set_cons_succ]) | (apply hO_off; (· rfl); (· rfl); simp only [Act.put, List.setIfInBounds_toArray, List.set_cons_zero, List.set_cons_succ]) | (apply hO_val; (· intro w hS; go_simp; with_reducible rfl); (· rfl); simp only [Act.put, List.setIfInBounds_toArray, List.set_cons_zero, List.set_cons_succ]) | (apply hO_call; (· rfl); (· intro w hS; go_simp; exact ⟨rfl, rfl⟩); (· intro w hS; fail); simp only [Act.put, List.setIfInBounds_toArray, List.set_cons_zero, List.set_cons_succ]) | (apply hO_if; (· rfl); (· rfl); (· intro hif w hS; go_simp; with_reducible rfl); simp only [Act.put, List.setIfInBounds_toArray, List.set_cons_zero, List.set_cons_succ]) | (apply hO_ifcall; (· rfl); (· rfl); (· intro hif w hS; go_simp; exact ⟨rfl, rfl⟩); (· intro hif w hS; fail); simp only [Act.put, List.setIfInBounds_toArray, List.set_cons_zero, List.set_cons_succ]))); refine hO_nil ?_; refine hK _ ?_; clear hK K
  intro w1 hX1
  go_wp2_with (fail)
  go_ret
  exact ⟨rfl, hL.trans (hX1.below.mono hL.size)⟩
theorem ticks_any (s : TSet) (v : Value) (x : Nat) (w : World) (hx : x < 18446744073709551616) (hR : 0 ≤ s.reload ∧ s.reload ≤ 10000) :
    Calls Tryz.prog 30 #[setV s v, .int .u64 x] w fun e w' => e = .returned (.int .i64 (s.reload * popN 64 x)) ∧ Below w.heap.size w w' := by
  have hm : IntKind.i64.wrap (s.reload * (popN 64 x : Nat)) = s.reload * (popN 64 x : Nat) := by
    have h1 : popN 64 x ≤ 64 := by rw [← bitsL_len]; exact bitsL_le x 64
    have h2 := Int.mul_le_mul hR.2 (show ((popN 64 x : Nat) : Int) ≤ 64 by omega) (by omega) (by omega)
    have h3 := Int.mul_nonneg hR.1 (show 0 ≤ ((popN 64 x : Nat) : Int) by omega)
    rw [IntKind.wrap_i64]
    omega
  go_enter Tryz.func30, Tryz.ntmps30
  unfold setV
  go_upto_region 1 with (fail)
  have hL : Below w.heap.size w (w.alloc (.cells #[.int .i64 s.reload, v] 24)) := (by repeat (first | exact Below.refl _ _ | assumption | refine Below.drew ?_ | refine Below.alloc ?_ (by first | (simp; done) | (simp; omega) | omega) _ | refine Below.setCell ?_ (by first | (simp; done) | (simp; omega) | omega) _)); have hB : Blk (w.alloc (.cells #[.int .i64 s.reload, v] 24)) w.heap.size #[.int .i64 s.reload, v] 24 := Blk.new _ _ _
  generalize w.alloc _ = W at hL hB  ⊢
  have hc := hB.under
  refine wp_region_all (S := Ext W) (by kernel_rfl) (by kernel_rfl) (Ext.refl W).drew (fun K hK => ?_); (repeat (first | (apply hO_and; (· rfl); (· rfl); (· rfl); (· rfl); simp only [Act.put, List.setIfInBounds_toArray, List.set_cons_zero, List.set_cons_succ]) | (apply hO_or; (· rfl); (· rfl); (· rfl); (· rfl); simp only [Act.put, List.setIfInBounds_toArray, List.set_cons_zero, List.set_cons_succ]) | (apply hO_off; (· rfl); (· rfl); simp only [Act.put, List.setIfInBounds_toArray, List.set_cons_zero, List.set_cons_succ]) | (apply hO_val; (· intro w hS; go_simp; with_reducible rfl); (· rfl); simp only [Act.put, List.setIfInBounds_toArray, List.set_cons_zero, List.set_cons_succ]) | (apply hO_call; (· rfl); (· intro w hS; go_simp; exact ⟨rfl, rfl⟩); (· intro w hS; exact callS hS (count_any x hx _)); simp only [Act.put, List.setIfInBounds_toArray, List.set_cons_zero, List.set_cons_succ]) | (apply hO_if; (· rfl); (· rfl); (· intro hif w hS; go_simp; with_reducible rfl); simp only [Act.put, List.setIfInBounds_toArray, List.set_cons_zero, List.set_cons_succ]) | (apply hO_ifcall; (· rfl); (· rfl); (· intro hif w hS; go_simp; exact ⟨rfl, rfl⟩); (· intro hif w hS; exact callS hS (count_any x hx _)); simp only [Act.put, List.setIfInBounds_toArray, List.set_cons_zero, List.set_cons_succ]))); refine hO_nil ?_; refine hK _ ?_; clear hK K
  intro w1 hX1
  go_wp2_with (fail)
  go_ret
  exact ⟨rfl, hL.trans (hX1.below.mono hL.size)⟩
/-- numbers as they may be, for the sums -/
structure Plain (s : TSet) : Prop where
  reload : 0 ≤ s.reload ∧ s.reload ≤ 10000
  ucb : ∀ t ∈ s.tasks, 0 ≤ t.ucb ∧ t.ucb < 18446744073709551616
  ecb : ∀ t ∈ s.tasks, 0 ≤ t.ecb ∧ t.ecb < 18446744073709551616
theorem own_any (s : TSet) (v : Value) (k : Nat) (w : World) (hv : Tasks w v s.tasks) (hp : Plain s) (hk : k < s.tasks.length) :
    Calls Tryz.prog 19 #[setV s v, .int .i64 k] w fun e w' => e = .returned (.int .i64 (s.reload * popN 64 s.tasks[k].ucb.toNat)) ∧ Below w.heap.size w w' := by
  have l1 := hv.len
  have hv0 := hv
  obtain ⟨A, c, rfl, _, _, _⟩ := hv0
  go_enter Tryz.func19, Tryz.ntmps19
  unfold setV
  go_upto_region 1 with (fail)
  have hL : Below w.heap.size w (w.alloc (.cells #[.int .i64 s.reload, (.slice A s.tasks.length c)] 24)) := (by repeat (first | exact Below.refl _ _ | assumption | refine Below.drew ?_ | refine Below.alloc ?_ (by first | (simp; done) | (simp; omega) | omega) _ | refine Below.setCell ?_ (by first | (simp; done) | (simp; omega) | omega) _)); have hB : Blk (w.alloc (.cells #[.int .i64 s.reload, (.slice A s.tasks.length c)] 24)) w.heap.size #[.int .i64 s.reload, (.slice A s.tasks.length c)] 24 := Blk.new _ _ _
  have hr := hv.ext ⟨hL⟩
  generalize w.alloc _ = W at hL hB hr ⊢
  have hc := hB.under
  refine wp_region_all' (S := Ext W) (Ext.refl W) (fun K hK => ?_); (repeat (first | (apply hO_and; (· rfl); (· rfl); (· rfl); (· rfl); simp only [Act.put, List.setIfInBounds_toArray, List.set_cons_zero, List.set_cons_succ]) | (apply hO_or; (· rfl); (· rfl); (· rfl); (· rfl); simp only [Act.put, List.setIfInBounds_toArray, List.set_cons_zero, List.set_cons_succ]) | (apply hO_off; (· rfl); (· rfl); simp only [Act.put, List.setIfInBounds_toArray, List.set_cons_zero, List.set_cons_succ]) | (apply hO_val; (· intro w hS; go_simp; with_reducible rfl); (· rfl); simp only [Act.put, List.setIfInBounds_toArray, List.set_cons_zero, List.set_cons_succ]) | (apply hO_call; (· rfl); (· intro w hS; go_simp; exact ⟨rfl, rfl⟩); (· intro w hS; exact callX hS (againIs_any s _ _ _ (hr.ext hS))); simp only [Act.put, List.setIfInBounds_toArray, List.set_cons_zero, List.set_cons_succ]) | (apply hO_if; (· rfl); (· rfl); (· intro hif w hS; go_simp; with_reducible rfl); simp only [Act.put, List.setIfInBounds_toArray, List.set_cons_zero, List.set_cons_succ]) | (apply hO_ifcall; (· rfl); (· rfl); (· intro hif w hS; go_simp; exact ⟨rfl, rfl⟩); (· intro hif w hS; exact callX hS (againIs_any s _ _ _ (hr.ext hS))); simp only [Act.put, List.setIfInBounds_toArray, List.set_cons_zero, List.set_cons_succ]))); refine hO_nil ?_; refine hK _ ?_; clear hK K
  intro w1 hX1
  have hd : (decide ((0 : Int) ≤ (k : Int)) && decide ((k : Int) < (s.tasks.length : Int))) = true := by simp [hk]
  rw [hd]
  obtain ⟨b, o, r, rfl, hx⟩ := hr.at hk
  have hu := hp.ucb _ (List.getElem_mem hk)
  obtain ⟨n, hn⟩ := Int.eq_ofNat_of_zero_le hu.1
  have hn64 : n < 18446744073709551616 := by omega
  have ht := fun W h => ticks_any s (.slice (some ⟨b, o, none⟩) s.tasks.length c) n W h hp.reload
  have e : s.reload * (popN 64 s.tasks[k].ucb.toNat : Nat) = s.reload * (popN 64 n : Nat) := by rw [hn, Int.toNat_natCast]
  have E := Lib.hid e
  clear e
  generalize s.tasks[k] = t at hx hn hu
  obtain ⟨x0, x1, x2, x3, x4, x5, x6, x7, x8⟩ := hx.under
  rw [hn] at x8
  have HT := Lib.hid ht
  clear ht x0 x1 x2 x3 x4 x5 x6 x7
  go_upto_region 3 with (fail)
  refine wp_region_all (S := Ext W) (by kernel_rfl) (by kernel_rfl) hX1.drew (fun K hK => ?_); (repeat (first | (apply hO_and; (· rfl); (· rfl); (· rfl); (· rfl); simp only [Act.put, List.setIfInBounds_toArray, List.set_cons_zero, List.set_cons_succ]) | (apply hO_or; (· rfl); (· rfl); (· rfl); (· rfl); simp only [Act.put, List.setIfInBounds_toArray, List.set_cons_zero, List.set_cons_succ]) | (apply hO_off; (· rfl); (· rfl); simp only [Act.put, List.setIfInBounds_toArray, List.set_cons_zero, List.set_cons_succ]) | (apply hO_val; (· intro w hS; go_simp; with_reducible rfl); (· rfl); simp only [Act.put, List.setIfInBounds_toArray, List.set_cons_zero, List.set_cons_succ]) | (apply hO_call; (· rfl); (· intro w hS; go_simp; exact ⟨rfl, rfl⟩); (· intro w hS; exact callX hS (HT.out _ hn64)); simp only [Act.put, List.setIfInBounds_toArray, List.set_cons_zero, List.set_cons_succ]) | (apply hO_if; (· rfl); (· rfl); (· intro hif w hS; go_simp; with_reducible rfl); simp only [Act.put, List.setIfInBounds_toArray, List.set_cons_zero, List.set_cons_succ]) | (apply hO_ifcall; (· rfl); (· rfl); (· intro hif w hS; go_simp; exact ⟨rfl, rfl⟩); (· intro hif w hS; exact callX hS (HT.out _ hn64)); simp only [Act.put, List.setIfInBounds_toArray, List.set_cons_zero, List.set_cons_succ]))); refine hO_nil ?_; refine hK _ ?_; clear hK K
  intro w2 hX2
  go_wp2_with (fail)
  go_ret
  exact ⟨ret_i E.out.symm, hL.trans (hX2.below.mono hL.size)⟩
/-- all sets that these need again -/
def orU (ts : List Tsk) : Nat := ts.foldl (fun m t => m ||| t.ucb.toNat) 0
theorem orU_step (ts : List Tsk) (k : Nat) (h : k < ts.length) : orU (ts.take (k + 1)) = orU (ts.take k) ||| (ts[k]).ucb.toNat := by
  unfold orU
  rw [List.take_succ_eq_append_getElem h, List.foldl_append]
  rfl
theorem orU_lt (ts : List Tsk) (h : ∀ t ∈ ts, 0 ≤ t.ucb ∧ t.ucb < 18446744073709551616) (k : Nat) : orU (ts.take k) < 18446744073709551616 := by
  induction k with
  | zero => simp [orU]
  | succ k ih =>
    rcases Nat.lt_or_ge k ts.length with hk | hk
    · rw [orU_step ts k hk]
      have := h _ (List.getElem_mem hk)
      exact Nat.or_lt_two_pow (n := 64) ih (by omega)
    · rw [List.take_of_length_le (by omega)]
      rw [List.take_of_length_le hk] at ih
      exact ih
end Go.Proofs.YtknfdjnbndfboabGreatDoor
/- again.Made. -/
namespace Go.Proofs.YtknfdjnbndfboabGreatDoor
open Go.RowKit
attribute [local go_sem] setCell_twice ByteArray.toList_eq str_list Ext.alloc Ext.drew
set_option linter.unusedSimpArgs false
set_option maxRecDepth 100000
set_option maxHeartbeats 6400000
attribute [local irreducible] popN

theorem made_any (s : TSet) (v : Value) (k : Nat) (w : World) (hv : Tasks w v s.tasks) (hp : Plain s) (hk : k < s.tasks.length) :
    Calls Tryz.prog 79 #[setV s v, .int .i64 k] w fun e w' => e = .returned (.int .i64 (s.reload * popN 64 (s.tasks[k].ecb.toNat &&& orU (s.tasks.drop (k + 1))))) ∧ Below w.heap.size w w' := by
  have l1 := hv.len
  have hv0 := hv
  obtain ⟨A, c, rfl, hle, hcm, _⟩ := hv0
  go_enter Tryz.func79, Tryz.ntmps79
  unfold setV
  go_upto_region 1 with (fail)
  have hL : Below w.heap.size w (w.alloc (.cells #[.int .i64 s.reload, (.slice A s.tasks.length c)] 24)) := (by repeat (first | exact Below.refl _ _ | assumption | refine Below.drew ?_ | refine Below.alloc ?_ (by first | (simp; done) | (simp; omega) | omega) _ | refine Below.setCell ?_ (by first | (simp; done) | (simp; omega) | omega) _)); have hB : Blk (w.alloc (.cells #[.int .i64 s.reload, (.slice A s.tasks.length c)] 24)) w.heap.size #[.int .i64 s.reload, (.slice A s.tasks.length c)] 24 := Blk.new _ _ _
  have hr := hv.ext ⟨hL⟩
  generalize w.alloc _ = W at hL hB hr ⊢
  have hc := hB.under
  refine wp_region_all' (S := Ext W) (Ext.refl W) (fun K hK => ?_); (repeat (first | (apply hO_and; (· rfl); (· rfl); (· rfl); (· rfl); simp only [Act.put, List.setIfInBounds_toArray, List.set_cons_zero, List.set_cons_succ]) | (apply hO_or; (· rfl); (· rfl); (· rfl); (· rfl); simp only [Act.put, List.setIfInBounds_toArray, List.set_cons_zero, List.set_cons_succ]) | (apply hO_off; (· rfl); (· rfl); simp only [Act.put, List.setIfInBounds_toArray, List.set_cons_zero, List.set_cons_succ]) | (apply hO_val; (· intro w hS; go_simp; with_reducible rfl); (· rfl); simp only [Act.put, List.setIfInBounds_toArray, List.set_cons_zero, List.set_cons_succ]) | (apply hO_call; (· rfl); (· intro w hS; go_simp; exact ⟨rfl, rfl⟩); (· intro w hS; exact callX hS (againIs_any s _ _ _ (hr.ext hS))); simp only [Act.put, List.setIfInBounds_toArray, List.set_cons_zero, List.set_cons_succ]) | (apply hO_if; (· rfl); (· rfl); (· intro hif w hS; go_simp; with_reducible rfl); simp only [Act.put, List.setIfInBounds_toArray, List.set_cons_zero, List.set_cons_succ]) | (apply hO_ifcall; (· rfl); (· rfl); (· intro hif w hS; go_simp; exact ⟨rfl, rfl⟩); (· intro hif w hS; exact callX hS (againIs_any s _ _ _ (hr.ext hS))); simp only [Act.put, List.setIfInBounds_toArray, List.set_cons_zero, List.set_cons_succ]))); refine hO_nil ?_; refine hK _ ?_; clear hK K
  intro w1 hX1
  have hd : (decide ((0 : Int) ≤ (k : Int)) && decide ((k : Int) < (s.tasks.length : Int))) = true := by simp [hk]
  rw [hd]
  obtain ⟨b, o, r, rfl, hx⟩ := hr.at hk
  have hc1 := fun i => hc w1 hX1 i
  have he := hp.ecb _ (List.getElem_mem hk)
  obtain ⟨n0, hn0⟩ := Int.eq_ofNat_of_zero_le he.1
  have hn64 : n0 < 18446744073709551616 := by omega
  obtain ⟨z0, z1, z2, z3, z4, z5, z6, z7, z8⟩ := hx.under
  rw [hn0] at z7
  have ht := fun A' c' x W h => ticks_any s (.slice A' s.tasks.length c') x W h hp.reload
  have HT := Lib.hid ht
  have HE : Hid (s.reload * (popN 64 (s.tasks[k].ecb.toNat &&& orU (s.tasks.drop (k + 1))) : Nat) = s.reload * (popN 64 (n0 &&& orU (s.tasks.drop (k + 1))) : Nat)) := Lib.hid (by rw [hn0, Int.toNat_natCast])
  clear ht z0 z1 z2 z3 z4 z5 z6 z8
  unfold maxLen at hcm
  have i1 : (0 : Int) ≤ (k : Int) + 1 := by omega
  have i2 : (k : Int) + 1 ≤ (s.tasks.length : Int) := by omega
  have i3 : (s.tasks.length : Int) ≤ (c : Int) := by omega
  go_upto_region 5 with (fail)
  · rename_i hck
    go_loopw [5, 18] (fun m i wr => m = .int .u64 0 ∧ i = .int .i64 0 ∧ Ext W wr) (fun _ _ _ => 0)
    case atStart => exact ⟨rfl, rfl, hX1⟩
    case round =>
      obtain ⟨rfl, rfl, hX⟩ := hrel
      have hz : s.tasks.length - (k + 1) = 0 := by omega
      have hzd : s.tasks.drop (k + 1) = [] := List.drop_eq_nil_of_le (by omega)
      rw [hzd] at HE
      have ea : bits BinOp.and IntKind.u64 (n0 : Int) 0 = 0 := by have := bits_and_u64_nat n0 0 hn64 (by decide); rw [Nat.and_zero] at this; exact this
      have HZ := Lib.hid hzd
      clear hzd
      go_upto_region 9 with (fail)
      refine wp_region_all (S := Ext W) (by kernel_rfl) (by kernel_rfl) hX.drew (fun K hK => ?_); (repeat (first | (apply hO_and; (· rfl); (· rfl); (· rfl); (· rfl); simp only [Act.put, List.setIfInBounds_toArray, List.set_cons_zero, List.set_cons_succ]) | (apply hO_or; (· rfl); (· rfl); (· rfl); (· rfl); simp only [Act.put, List.setIfInBounds_toArray, List.set_cons_zero, List.set_cons_succ]) | (apply hO_off; (· rfl); (· rfl); simp only [Act.put, List.setIfInBounds_toArray, List.set_cons_zero, List.set_cons_succ]) | (apply hO_val; (· intro w hS; go_simp; with_reducible rfl); (· rfl); simp only [Act.put, List.setIfInBounds_toArray, List.set_cons_zero, List.set_cons_succ]) | (apply hO_call; (· rfl); (· intro w hS; go_simp; exact ⟨rfl, rfl⟩); (· intro w hS; exact callX hS (HT.out _ _ 0 _ (by decide))); simp only [Act.put, List.setIfInBounds_toArray, List.set_cons_zero, List.set_cons_succ]) | (apply hO_if; (· rfl); (· rfl); (· intro hif w hS; go_simp; with_reducible rfl); simp only [Act.put, List.setIfInBounds_toArray, List.set_cons_zero, List.set_cons_succ]) | (apply hO_ifcall; (· rfl); (· rfl); (· intro hif w hS; go_simp; exact ⟨rfl, rfl⟩); (· intro hif w hS; exact callX hS (HT.out _ _ 0 _ (by decide))); simp only [Act.put, List.setIfInBounds_toArray, List.set_cons_zero, List.set_cons_succ]))); refine hO_nil ?_; refine hK _ ?_; clear hK K
      intro w2 hX2
      go_wp2_with (fail)
      go_ret
      exact ⟨ret_i (by rw [HZ.out]; show _ = s.reload * (popN 64 (_ &&& 0) : Nat); rw [Nat.and_zero]), hL.trans (hX2.below.mono hL.size)⟩
  · go_loopw [5, 18] (fun m i wr => ∃ q : Nat, q ≤ s.tasks.length - (k + 1) ∧ m = .int .u64 (orU ((s.tasks.drop (k + 1)).take q)) ∧ i = .int .i64 q ∧ Ext W wr) (fun _ i _ => s.tasks.length - (k + 1) - (intOf i).toNat)
    case atStart => exact ⟨0, Nat.zero_le _, rfl, rfl, hX1⟩
    case round =>
      obtain ⟨q, hq, rfl, rfl, hX⟩ := hrel
      by_cases hlt : q < s.tasks.length - (k + 1)
      · obtain ⟨b2, o2, r2, e, hy⟩ := hr.at (k := k + 1 + q) (by omega)
        obtain ⟨rfl, rfl⟩ : b2 = b ∧ o2 = o := by cases e; exact ⟨rfl, rfl⟩
        have eo : o2 + (k + 1 + q) * 9 = o2 + (k + 1) * 9 + q * 9 := by omega
        rw [eo] at hy
        have hu := hp.ucb _ (List.getElem_mem (show k + 1 + q < s.tasks.length by omega))
        have hst := orU_step (s.tasks.drop (k + 1)) q (by simp; omega)
        have hlt64 := orU_lt (s.tasks.drop (k + 1)) (fun t ht => hp.ucb t (List.mem_of_mem_drop ht)) q
        rw [List.getElem_drop] at hst
        obtain ⟨A9, c9, rfl⟩ := hy.row
        generalize s.tasks[k + 1 + q] = x at hy hu hst
        obtain ⟨n, hn⟩ := Int.eq_ofNat_of_zero_le hu.1
        rw [hn, Int.toNat_natCast] at hst
        generalize orU ((s.tasks.drop (k + 1)).take q) = m at *
        have eor : bits BinOp.or IntKind.u64 (m : Int) (n : Int) = ((m ||| n : Nat) : Int) := bits_or_u64_nat _ _ hlt64 (by omega)
        obtain ⟨x0, x1, x2, x3, x4, x5, x6, x7, x8⟩ := hy.under
        rw [hn] at x8
        have hst2 := Lib.hid hst
        clear hst
        have y0 := x0 wr hX; have y1 := x1 wr hX; have y2 := x2 wr hX; have y3 := x3 wr hX; have y4 := x4 wr hX; have y5 := x5 wr hX; have y6 := x6 wr hX; have y7 := x7 wr hX; have y8 := x8 wr hX
        clear x0 x1 x2 x3 x4 x5 x6 x7 x8
        clear z7
        go_wp2_with (fail)
        exact ⟨⟨q + 1, hlt, by rw [hst2.out], rfl, hX.alloc _⟩, by simp [intOf]; omega⟩
      · obtain rfl : q = s.tasks.length - (k + 1) := by omega
        have hM := orU_lt (s.tasks.drop (k + 1)) (fun t ht => hp.ucb t (List.mem_of_mem_drop ht)) (s.tasks.length - (k + 1))
        rw [List.take_of_length_le (by simp)] at hM ⊢
        have HE0 := HE.out
        generalize hgm : orU (s.tasks.drop (k + 1)) = m at hM HE ⊢
        have HE1 := Lib.hid HE0
        rw [hgm] at HE0
        clear HE0
        have HGM := Lib.hid hgm
        clear hgm
        have ea : bits BinOp.and IntKind.u64 (n0 : Int) (m : Int) = ((n0 &&& m : Nat) : Int) := bits_and_u64_nat _ _ hn64 hM
        have hnm : n0 &&& m < 18446744073709551616 := Nat.lt_of_le_of_lt Nat.and_le_left hn64
        go_upto_region 9 with (fail)
        refine wp_region_all (S := Ext W) (by kernel_rfl) (by kernel_rfl) hX.drew (fun K hK => ?_); (repeat (first | (apply hO_and; (· rfl); (· rfl); (· rfl); (· rfl); simp only [Act.put, List.setIfInBounds_toArray, List.set_cons_zero, List.set_cons_succ]) | (apply hO_or; (· rfl); (· rfl); (· rfl); (· rfl); simp only [Act.put, List.setIfInBounds_toArray, List.set_cons_zero, List.set_cons_succ]) | (apply hO_off; (· rfl); (· rfl); simp only [Act.put, List.setIfInBounds_toArray, List.set_cons_zero, List.set_cons_succ]) | (apply hO_val; (· intro w hS; go_simp; with_reducible rfl); (· rfl); simp only [Act.put, List.setIfInBounds_toArray, List.set_cons_zero, List.set_cons_succ]) | (apply hO_call; (· rfl); (· intro w hS; go_simp; exact ⟨rfl, rfl⟩); (· intro w hS; exact callX hS (HT.out _ _ _ _ hnm)); simp only [Act.put, List.setIfInBounds_toArray, List.set_cons_zero, List.set_cons_succ]) | (apply hO_if; (· rfl); (· rfl); (· intro hif w hS; go_simp; with_reducible rfl); simp only [Act.put, List.setIfInBounds_toArray, List.set_cons_zero, List.set_cons_succ]) | (apply hO_ifcall; (· rfl); (· rfl); (· intro hif w hS; go_simp; exact ⟨rfl, rfl⟩); (· intro hif w hS; exact callX hS (HT.out _ _ _ _ hnm)); simp only [Act.put, List.setIfInBounds_toArray, List.set_cons_zero, List.set_cons_succ]))); refine hO_nil ?_; refine hK _ ?_; clear hK K
        intro w2 hX2
        go_wp2_with (fail)
        go_ret
        exact ⟨ret_i (by rw [HGM.out]; exact HE.out.symm), hL.trans (hX2.below.mono hL.size)⟩
end Go.Proofs.YtknfdjnbndfboabGreatDoor
/- again.Cost. -/
namespace Go.Proofs.YtknfdjnbndfboabGreatDoor
open Go.RowKit
attribute [local go_sem] setCell_twice ByteArray.toList_eq str_list Ext.alloc Ext.drew
set_option linter.unusedSimpArgs false
set_option maxRecDepth 100000
set_option maxHeartbeats 6400000
attribute [local irreducible] popN

/-- what loading again costs that task k makes -/
def madeN (s : TSet) (k : Nat) (h : k < s.tasks.length) : Nat := s.reload.toNat * popN 64 (s.tasks[k].ecb.toNat &&& orU (s.tasks.drop (k + 1)))
theorem popN_le (x : Nat) : popN 64 x ≤ 64 := by rw [← bitsL_len]; exact bitsL_le x 64
theorem madeN_eq (s : TSet) (k : Nat) (h : k < s.tasks.length) (hR : 0 ≤ s.reload ∧ s.reload ≤ 10000) : s.reload * (popN 64 (s.tasks[k].ecb.toNat &&& orU (s.tasks.drop (k + 1))) : Nat) = (madeN s k h : Nat) ∧ madeN s k h ≤ 640000 := by
  unfold madeN
  have hp := popN_le (s.tasks[k].ecb.toNat &&& orU (s.tasks.drop (k + 1)))
  generalize popN 64 (s.tasks[k].ecb.toNat &&& orU (s.tasks.drop (k + 1))) = n at *
  obtain ⟨r, hr⟩ := Int.eq_ofNat_of_zero_le hR.1
  rw [hr, Int.toNat_natCast, ← Int.natCast_mul]
  exact ⟨rfl, Nat.mul_le_mul (show r ≤ 10000 by omega) hp⟩
theorem cost_any (s : TSet) (v : Value) (k : Nat) (w : World) (hv : Tasks w v s.tasks) (hp : Plain s) (hk : k < s.tasks.length) (n : Nat) (hn : workL s.tasks[k].regs = n) (hn1 : n ≤ 1000000) :
    Calls Tryz.prog 68 #[setV s v, .int .i64 k] w fun e w' => e = .returned (.tuple #[.complex .f64 (fl n) (fl (madeN s k hk)), .bool true]) ∧ Below w.heap.size w w' := by
  have l1 := hv.len
  have hv0 := hv
  obtain ⟨A, c, rfl, hle, hcm, _⟩ := hv0
  go_enter Tryz.func68, Tryz.ntmps68
  unfold setV
  go_upto_region 1 with (fail)
  have hL : Below w.heap.size w (w.alloc (.cells #[.int .i64 s.reload, (.slice A s.tasks.length c)] 24)) := (by repeat (first | exact Below.refl _ _ | assumption | refine Below.drew ?_ | refine Below.alloc ?_ (by first | (simp; done) | (simp; omega) | omega) _ | refine Below.setCell ?_ (by first | (simp; done) | (simp; omega) | omega) _)); have hB : Blk (w.alloc (.cells #[.int .i64 s.reload, (.slice A s.tasks.length c)] 24)) w.heap.size #[.int .i64 s.reload, (.slice A s.tasks.length c)] 24 := Blk.new _ _ _
  have hr := hv.ext ⟨hL⟩
  generalize w.alloc _ = W at hL hB hr ⊢
  have hc := hB.under
  refine wp_region_all' (S := Ext W) (Ext.refl W) (fun K hK => ?_); (repeat (first | (apply hO_and; (· rfl); (· rfl); (· rfl); (· rfl); simp only [Act.put, List.setIfInBounds_toArray, List.set_cons_zero, List.set_cons_succ]) | (apply hO_or; (· rfl); (· rfl); (· rfl); (· rfl); simp only [Act.put, List.setIfInBounds_toArray, List.set_cons_zero, List.set_cons_succ]) | (apply hO_off; (· rfl); (· rfl); simp only [Act.put, List.setIfInBounds_toArray, List.set_cons_zero, List.set_cons_succ]) | (apply hO_val; (· intro w hS; go_simp; with_reducible rfl); (· rfl); simp only [Act.put, List.setIfInBounds_toArray, List.set_cons_zero, List.set_cons_succ]) | (apply hO_call; (· rfl); (· intro w hS; go_simp; exact ⟨rfl, rfl⟩); (· intro w hS; exact callX hS (againIs_any s _ _ _ (hr.ext hS))); simp only [Act.put, List.setIfInBounds_toArray, List.set_cons_zero, List.set_cons_succ]) | (apply hO_if; (· rfl); (· rfl); (· intro hif w hS; go_simp; with_reducible rfl); simp only [Act.put, List.setIfInBounds_toArray, List.set_cons_zero, List.set_cons_succ]) | (apply hO_ifcall; (· rfl); (· rfl); (· intro hif w hS; go_simp; exact ⟨rfl, rfl⟩); (· intro hif w hS; exact callX hS (againIs_any s _ _ _ (hr.ext hS))); simp only [Act.put, List.setIfInBounds_toArray, List.set_cons_zero, List.set_cons_succ]))); refine hO_nil ?_; refine hK _ ?_; clear hK K
  intro w1 hX1
  have hd : (decide ((0 : Int) ≤ (k : Int)) && decide ((k : Int) < (s.tasks.length : Int))) = true := by simp [hk]
  rw [hd]
  obtain ⟨b, o, r, rfl, hx⟩ := hr.at hk
  have hm := madeN_eq s k hk hp.reload
  have ht := fun W h => made_any s (.slice (some ⟨b, o, none⟩) s.tasks.length c) k W h hp hk
  rw [hm.1] at ht
  have hwk := fun W (h : Ext _ W) => work_any s.tasks[k] r W (hx.1.ext h)
  rw [hn] at hwk
  have hco := fun W => costOf_any n (madeN s k hk) (by omega) (by omega) W
  have HT := Lib.hid ht
  have HW := Lib.hid hwk
  have HC := Lib.hid hco
  clear ht hwk hco hm
  have hrow := hx.row
  generalize hmk : madeN s k hk = m at *
  have HM := Lib.hid hmk
  clear hmk
  unfold tskV at HW
  generalize s.tasks[k] = t at hx HW hrow
  obtain ⟨A2, c2, rfl⟩ := hrow
  obtain ⟨x0, x1, x2, x3, x4, x5, x6, x7, x8⟩ := hx.under
  go_upto_region 3 with (fail)
  refine wp_region_all (S := Ext W) (by kernel_rfl) (by kernel_rfl) hX1.drew (fun K hK => ?_); (repeat (first | (apply hO_and; (· rfl); (· rfl); (· rfl); (· rfl); simp only [Act.put, List.setIfInBounds_toArray, List.set_cons_zero, List.set_cons_succ]) | (apply hO_or; (· rfl); (· rfl); (· rfl); (· rfl); simp only [Act.put, List.setIfInBounds_toArray, List.set_cons_zero, List.set_cons_succ]) | (apply hO_off; (· rfl); (· rfl); simp only [Act.put, List.setIfInBounds_toArray, List.set_cons_zero, List.set_cons_succ]) | (apply hO_val; (· intro w hS; go_simp; with_reducible rfl); (· rfl); simp only [Act.put, List.setIfInBounds_toArray, List.set_cons_zero, List.set_cons_succ]) | (apply hO_call; (· rfl); (· intro w hS; go_simp; exact ⟨rfl, rfl⟩); (· intro w hS; first | exact callX hS (HW.out _ hS) | exact callX hS (HT.out _ (hr.ext hS)) | exact callS hS (HC.out _)); simp only [Act.put, List.setIfInBounds_toArray, List.set_cons_zero, List.set_cons_succ]) | (apply hO_if; (· rfl); (· rfl); (· intro hif w hS; go_simp; with_reducible rfl); simp only [Act.put, List.setIfInBounds_toArray, List.set_cons_zero, List.set_cons_succ]) | (apply hO_ifcall; (· rfl); (· rfl); (· intro hif w hS; go_simp; exact ⟨rfl, rfl⟩); (· intro hif w hS; first | exact callX hS (HW.out _ hS) | exact callX hS (HT.out _ (hr.ext hS)) | exact callS hS (HC.out _)); simp only [Act.put, List.setIfInBounds_toArray, List.set_cons_zero, List.set_cons_succ]))); refine hO_nil ?_; refine hK _ ?_; clear hK K
  intro w2 hX2
  go_wp2_with (fail)
  exact bodyPost_ret (v := .tuple #[.complex .f64 (fl n) (fl m), .bool true]) (by simp [results, Tryz.results68, go_sem, *]) rfl ⟨by rw [HM.out], hL.trans (hX2.below.mono hL.size)⟩
end Go.Proofs.YtknfdjnbndfboabGreatDoor
