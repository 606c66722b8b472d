/- again: is, ticks, Own. -/
import Derived.Test.YtknfdjnbndfboaaDoorProg
import Derived.Test.YtknfdjnbndfboaaDoorBase
import Derived.Test.YtknfdjnbndfboaaDoorBase2
import Derived.Test.YtknfdjnbndfboaaDoorHeld
import Derived.Test.YtknfdjnbndfboaaDoorHeldX
import Derived.Test.YtknfdjnbndfboaaDoorTsk1
import Derived.Test.YtknfdjnbndfboaaDoorTsk3
import Derived.Test.YtknfdjnbndfboaaDoorTskZ
import Derived.Test.YtknfdjnbndfboaaDoorBitM
import Derived.Test.YtknfdjnbndfboaaDoorBit
import Derived.Deep.Cut
import Derived.Lib.Hide
namespace Go.Proofs.YtknfdjnbndfboaaDoor
open Go.RowKit
attribute [local go_sem] setCell_twice ByteArray.toList_eq str_list Ext.alloc Ext.drew
set_option linter.unusedSimpArgs false
set_option maxRecDepth 100000
set_option maxHeartbeats 6400000
attribute [local irreducible] popN

theorem againIs_any (s : TSet) (v : Value) (i : Int) (w : World) (hv : Tasks w v s.tasks) :
    Calls Tryd.prog 74 #[setV s v, .int .i64 i] w fun e w' => e = .returned (.bool (decide (0 ≤ i) && decide (i < s.tasks.length))) ∧ Below w.heap.size w w' := by
  have l1 := hv.len
  have hv0 := hv
  obtain ⟨A, c, rfl, _, _, _⟩ := hv0
  go_enter Tryd.func74, Tryd.ntmps74
  unfold setV
  go_upto_region 1 with (fail)
  have hL : Below w.heap.size w (w.alloc (.cells #[.int .i64 s.reload, (.slice A s.tasks.length c)] 24)) := (by repeat (first | exact Below.refl _ _ | assumption | refine Below.drew ?_ | refine Below.alloc ?_ (by first | (simp; done) | (simp; omega) | omega) _ | refine Below.setCell ?_ (by first | (simp; done) | (simp; omega) | omega) _)); have hB : Blk (w.alloc (.cells #[.int .i64 s.reload, (.slice A s.tasks.length c)] 24)) w.heap.size #[.int .i64 s.reload, (.slice A s.tasks.length c)] 24 := Blk.new _ _ _
  generalize w.alloc _ = W at hL hB  ⊢
  have hc := hB.under
  refine wp_region_all' (S := Ext W) (Ext.refl W) (fun K hK => ?_); (repeat (first | (apply hO_and; (· rfl); (· rfl); (· rfl); (· rfl); simp only [Act.put, List.setIfInBounds_toArray, List.set_cons_zero, List.set_cons_succ]) | (apply hO_or; (· rfl); (· rfl); (· rfl); (· rfl); simp only [Act.put, List.setIfInBounds_toArray, List.set_cons_zero, List.set_cons_succ]) | (apply hO_off; (· rfl); (· rfl); simp only [Act.put, List.setIfInBounds_toArray, List.set_cons_zero, List.set_cons_succ]) | (apply hO_val; (· intro w hS; go_simp; with_reducible rfl); (· rfl); simp only [Act.put, List.setIfInBounds_toArray, List.set_cons_zero, List.set_cons_succ]) | (apply hO_call; (· rfl); (· intro w hS; go_simp; exact ⟨rfl, rfl⟩); (· intro w hS; fail); simp only [Act.put, List.setIfInBounds_toArray, List.set_cons_zero, List.set_cons_succ]) | (apply hO_if; (· rfl); (· rfl); (· intro hif w hS; go_simp; with_reducible rfl); simp only [Act.put, List.setIfInBounds_toArray, List.set_cons_zero, List.set_cons_succ]) | (apply hO_ifcall; (· rfl); (· rfl); (· intro hif w hS; go_simp; exact ⟨rfl, rfl⟩); (· intro hif w hS; fail); simp only [Act.put, List.setIfInBounds_toArray, List.set_cons_zero, List.set_cons_succ]))); refine hO_nil ?_; refine hK _ ?_; clear hK K
  intro w1 hX1
  go_wp2_with (fail)
  go_ret
  exact ⟨rfl, hL.trans (hX1.below.mono hL.size)⟩
theorem ticks_any (s : TSet) (v : Value) (x : Nat) (w : World) (hx : x < 18446744073709551616) (hR : 0 ≤ s.reload ∧ s.reload ≤ 10000) :
    Calls Tryd.prog 82 #[setV s v, .int .u64 x] w fun e w' => e = .returned (.int .i64 (s.reload * popN 64 x)) ∧ Below w.heap.size w w' := by
  have hm : IntKind.i64.wrap (s.reload * (popN 64 x : Nat)) = s.reload * (popN 64 x : Nat) := by
    have h1 : popN 64 x ≤ 64 := by rw [← bitsL_len]; exact bitsL_le x 64
    have h2 := Int.mul_le_mul hR.2 (show ((popN 64 x : Nat) : Int) ≤ 64 by omega) (by omega) (by omega)
    have h3 := Int.mul_nonneg hR.1 (show 0 ≤ ((popN 64 x : Nat) : Int) by omega)
    rw [IntKind.wrap_i64]
    omega
  go_enter Tryd.func82, Tryd.ntmps82
  unfold setV
  go_upto_region 1 with (fail)
  have hL : Below w.heap.size w (w.alloc (.cells #[.int .i64 s.reload, v] 24)) := (by repeat (first | exact Below.refl _ _ | assumption | refine Below.drew ?_ | refine Below.alloc ?_ (by first | (simp; done) | (simp; omega) | omega) _ | refine Below.setCell ?_ (by first | (simp; done) | (simp; omega) | omega) _)); have hB : Blk (w.alloc (.cells #[.int .i64 s.reload, v] 24)) w.heap.size #[.int .i64 s.reload, v] 24 := Blk.new _ _ _
  generalize w.alloc _ = W at hL hB  ⊢
  have hc := hB.under
  refine wp_region_all (S := Ext W) (by kernel_rfl) (by kernel_rfl) (Ext.refl W).drew (fun K hK => ?_); (repeat (first | (apply hO_and; (· rfl); (· rfl); (· rfl); (· rfl); simp only [Act.put, List.setIfInBounds_toArray, List.set_cons_zero, List.set_cons_succ]) | (apply hO_or; (· rfl); (· rfl); (· rfl); (· rfl); simp only [Act.put, List.setIfInBounds_toArray, List.set_cons_zero, List.set_cons_succ]) | (apply hO_off; (· rfl); (· rfl); simp only [Act.put, List.setIfInBounds_toArray, List.set_cons_zero, List.set_cons_succ]) | (apply hO_val; (· intro w hS; go_simp; with_reducible rfl); (· rfl); simp only [Act.put, List.setIfInBounds_toArray, List.set_cons_zero, List.set_cons_succ]) | (apply hO_call; (· rfl); (· intro w hS; go_simp; exact ⟨rfl, rfl⟩); (· intro w hS; exact callS hS (count_any x hx _)); simp only [Act.put, List.setIfInBounds_toArray, List.set_cons_zero, List.set_cons_succ]) | (apply hO_if; (· rfl); (· rfl); (· intro hif w hS; go_simp; with_reducible rfl); simp only [Act.put, List.setIfInBounds_toArray, List.set_cons_zero, List.set_cons_succ]) | (apply hO_ifcall; (· rfl); (· rfl); (· intro hif w hS; go_simp; exact ⟨rfl, rfl⟩); (· intro hif w hS; exact callS hS (count_any x hx _)); simp only [Act.put, List.setIfInBounds_toArray, List.set_cons_zero, List.set_cons_succ]))); refine hO_nil ?_; refine hK _ ?_; clear hK K
  intro w1 hX1
  go_wp2_with (fail)
  go_ret
  exact ⟨rfl, hL.trans (hX1.below.mono hL.size)⟩
/-- numbers as they may be, for the sums -/
structure Plain (s : TSet) : Prop where
  reload : 0 ≤ s.reload ∧ s.reload ≤ 10000
  ucb : ∀ t ∈ s.tasks, 0 ≤ t.ucb ∧ t.ucb < 18446744073709551616
  ecb : ∀ t ∈ s.tasks, 0 ≤ t.ecb ∧ t.ecb < 18446744073709551616
theorem own_any (s : TSet) (v : Value) (k : Nat) (w : World) (hv : Tasks w v s.tasks) (hp : Plain s) (hk : k < s.tasks.length) :
    Calls Tryd.prog 67 #[setV s v, .int .i64 k] w fun e w' => e = .returned (.int .i64 (s.reload * popN 64 s.tasks[k].ucb.toNat)) ∧ Below w.heap.size w w' := by
  have l1 := hv.len
  have hv0 := hv
  obtain ⟨A, c, rfl, _, _, _⟩ := hv0
  go_enter Tryd.func67, Tryd.ntmps67
  unfold setV
  go_upto_region 1 with (fail)
  have hL : Below w.heap.size w (w.alloc (.cells #[.int .i64 s.reload, (.slice A s.tasks.length c)] 24)) := (by repeat (first | exact Below.refl _ _ | assumption | refine Below.drew ?_ | refine Below.alloc ?_ (by first | (simp; done) | (simp; omega) | omega) _ | refine Below.setCell ?_ (by first | (simp; done) | (simp; omega) | omega) _)); have hB : Blk (w.alloc (.cells #[.int .i64 s.reload, (.slice A s.tasks.length c)] 24)) w.heap.size #[.int .i64 s.reload, (.slice A s.tasks.length c)] 24 := Blk.new _ _ _
  have hr := hv.ext ⟨hL⟩
  generalize w.alloc _ = W at hL hB hr ⊢
  have hc := hB.under
  refine wp_region_all' (S := Ext W) (Ext.refl W) (fun K hK => ?_); (repeat (first | (apply hO_and; (· rfl); (· rfl); (· rfl); (· rfl); simp only [Act.put, List.setIfInBounds_toArray, List.set_cons_zero, List.set_cons_succ]) | (apply hO_or; (· rfl); (· rfl); (· rfl); (· rfl); simp only [Act.put, List.setIfInBounds_toArray, List.set_cons_zero, List.set_cons_succ]) | (apply hO_off; (· rfl); (· rfl); simp only [Act.put, List.setIfInBounds_toArray, List.set_cons_zero, List.set_cons_succ]) | (apply hO_val; (· intro w hS; go_simp; with_reducible rfl); (· rfl); simp only [Act.put, List.setIfInBounds_toArray, List.set_cons_zero, List.set_cons_succ]) | (apply hO_call; (· rfl); (· intro w hS; go_simp; exact ⟨rfl, rfl⟩); (· intro w hS; exact callX hS (againIs_any s _ _ _ (hr.ext hS))); simp only [Act.put, List.setIfInBounds_toArray, List.set_cons_zero, List.set_cons_succ]) | (apply hO_if; (· rfl); (· rfl); (· intro hif w hS; go_simp; with_reducible rfl); simp only [Act.put, List.setIfInBounds_toArray, List.set_cons_zero, List.set_cons_succ]) | (apply hO_ifcall; (· rfl); (· rfl); (· intro hif w hS; go_simp; exact ⟨rfl, rfl⟩); (· intro hif w hS; exact callX hS (againIs_any s _ _ _ (hr.ext hS))); simp only [Act.put, List.setIfInBounds_toArray, List.set_cons_zero, List.set_cons_succ]))); refine hO_nil ?_; refine hK _ ?_; clear hK K
  intro w1 hX1
  have hd : (decide ((0 : Int) ≤ (k : Int)) && decide ((k : Int) < (s.tasks.length : Int))) = true := by simp [hk]
  rw [hd]
  obtain ⟨b, o, r, rfl, hx⟩ := hr.at hk
  have hu := hp.ucb _ (List.getElem_mem hk)
  obtain ⟨n, hn⟩ := Int.eq_ofNat_of_zero_le hu.1
  have hn64 : n < 18446744073709551616 := by omega
  have ht := fun W h => ticks_any s (.slice (some ⟨b, o, none⟩) s.tasks.length c) n W h hp.reload
  have e : s.reload * (popN 64 s.tasks[k].ucb.toNat : Nat) = s.reload * (popN 64 n : Nat) := by rw [hn, Int.toNat_natCast]
  have E := Lib.hid e
  clear e
  generalize s.tasks[k] = t at hx hn hu
  obtain ⟨x0, x1, x2, x3, x4, x5, x6, x7, x8⟩ := hx.under
  rw [hn] at x8
  have HT := Lib.hid ht
  clear ht x0 x1 x2 x3 x4 x5 x6 x7
  go_upto_region 3 with (fail)
  refine wp_region_all (S := Ext W) (by kernel_rfl) (by kernel_rfl) hX1.drew (fun K hK => ?_); (repeat (first | (apply hO_and; (· rfl); (· rfl); (· rfl); (· rfl); simp only [Act.put, List.setIfInBounds_toArray, List.set_cons_zero, List.set_cons_succ]) | (apply hO_or; (· rfl); (· rfl); (· rfl); (· rfl); simp only [Act.put, List.setIfInBounds_toArray, List.set_cons_zero, List.set_cons_succ]) | (apply hO_off; (· rfl); (· rfl); simp only [Act.put, List.setIfInBounds_toArray, List.set_cons_zero, List.set_cons_succ]) | (apply hO_val; (· intro w hS; go_simp; with_reducible rfl); (· rfl); simp only [Act.put, List.setIfInBounds_toArray, List.set_cons_zero, List.set_cons_succ]) | (apply hO_call; (· rfl); (· intro w hS; go_simp; exact ⟨rfl, rfl⟩); (· intro w hS; exact callX hS (HT.out _ hn64)); simp only [Act.put, List.setIfInBounds_toArray, List.set_cons_zero, List.set_cons_succ]) | (apply hO_if; (· rfl); (· rfl); (· intro hif w hS; go_simp; with_reducible rfl); simp only [Act.put, List.setIfInBounds_toArray, List.set_cons_zero, List.set_cons_succ]) | (apply hO_ifcall; (· rfl); (· rfl); (· intro hif w hS; go_simp; exact ⟨rfl, rfl⟩); (· intro hif w hS; exact callX hS (HT.out _ hn64)); simp only [Act.put, List.setIfInBounds_toArray, List.set_cons_zero, List.set_cons_succ]))); refine hO_nil ?_; refine hK _ ?_; clear hK K
  intro w2 hX2
  go_wp2_with (fail)
  go_ret
  exact ⟨ret_i E.out.symm, hL.trans (hX2.below.mono hL.size)⟩
/-- all sets that these need again -/
def orU (ts : List Tsk) : Nat := ts.foldl (fun m t => m ||| t.ucb.toNat) 0
theorem orU_step (ts : List Tsk) (k : Nat) (h : k < ts.length) : orU (ts.take (k + 1)) = orU (ts.take k) ||| (ts[k]).ucb.toNat := by
  unfold orU
  rw [List.take_succ_eq_append_getElem h, List.foldl_append]
  rfl
theorem orU_lt (ts : List Tsk) (h : ∀ t ∈ ts, 0 ≤ t.ucb ∧ t.ucb < 18446744073709551616) (k : Nat) : orU (ts.take k) < 18446744073709551616 := by
  induction k with
  | zero => simp [orU]
  | succ k ih =>
    rcases Nat.lt_or_ge k ts.length with hk | hk
    · rw [orU_step ts k hk]
      have := h _ (List.getElem_mem hk)
      exact Nat.or_lt_two_pow (n := 64) ih (by omega)
    · rw [List.take_of_length_le (by omega)]
      rw [List.take_of_length_le hk] at ih
      exact ih
end Go.Proofs.YtknfdjnbndfboaaDoor
