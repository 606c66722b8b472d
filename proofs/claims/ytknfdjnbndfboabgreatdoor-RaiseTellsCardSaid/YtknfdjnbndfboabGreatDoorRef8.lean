/- The document's costs (ref8): Work. -/
import Derived.Test.YtknfdjnbndfboabGreatDoorProg
import Derived.Test.YtknfdjnbndfboabGreatDoorBase
import Derived.Test.YtknfdjnbndfboabGreatDoorHeldX
import Derived.Test.YtknfdjnbndfboabGreatDoorTsk1
import Derived.Test.YtknfdjnbndfboabGreatDoorTsk3
import Derived.Test.YtknfdjnbndfboabGreatDoorTskZ
import Derived.Test.YtknfdjnbndfboabGreatDoorNumP
import Derived.Test.YtknfdjnbndfboabGreatDoorBit
import Derived.Test.YtknfdjnbndfboabGreatDoorAgain
import Derived.Deep.Cut
import Derived.Lib.Hide
import Derived.Laws.Bits64b
namespace Go.Proofs.YtknfdjnbndfboabGreatDoor
open Go.RowKit
attribute [local go_sem] setCell_twice ByteArray.toList_eq str_list Ext.alloc Ext.drew
set_option linter.unusedSimpArgs false
set_option maxRecDepth 100000
set_option maxHeartbeats 6400000

theorem work8_any (s : TSet) (v : Value) (k : Nat) (w : World) (hv : Tasks w v s.tasks) (hk : k < s.tasks.length) :
    Calls Tryz.prog 32 #[setV s v, .int .i64 k] w fun e w' => e = .returned (.int .i64 (workL s.tasks[k].regs)) ∧ Below w.heap.size w w' := by
  have l1 := hv.len
  have hv0 := hv
  obtain ⟨A, c, rfl, _, _, _⟩ := hv0
  go_enter Tryz.func32, Tryz.ntmps32
  unfold setV
  go_upto_region 1 with (fail)
  have hL : Below w.heap.size w (w.alloc (.cells #[.int .i64 s.reload, (.slice A s.tasks.length c)] 24)) := (by repeat (first | exact Below.refl _ _ | assumption | refine Below.drew ?_ | refine Below.alloc ?_ (by first | (simp; done) | (simp; omega) | omega) _ | refine Below.setCell ?_ (by first | (simp; done) | (simp; omega) | omega) _)); have hB : Blk (w.alloc (.cells #[.int .i64 s.reload, (.slice A s.tasks.length c)] 24)) w.heap.size #[.int .i64 s.reload, (.slice A s.tasks.length c)] 24 := Blk.new _ _ _
  have hr := hv.ext ⟨hL⟩
  generalize w.alloc _ = W at hL hB hr ⊢
  have hc := hB.under
  obtain ⟨b, o, r, rfl, hx⟩ := hr.at hk
  have hwk := fun W' (h : Ext W W') => workR_any s.tasks[k] r W' (hx.1.ext h)
  have HW := Lib.hid hwk
  clear hwk
  have hrow := hx.row
  unfold tskV at HW
  generalize hgt : s.tasks[k] = t at hx HW hrow
  have HG := Lib.hid hgt
  clear hgt
  obtain ⟨A2, c2, rfl⟩ := hrow
  obtain ⟨x0, x1, x2, x3, x4, x5, x6, x7, x8⟩ := hx.under
  refine wp_region_all' (S := Ext W) (Ext.refl W) (fun K hK => ?_); (repeat (first | (apply hO_and; (· rfl); (· rfl); (· rfl); (· rfl); simp only [Act.put, List.setIfInBounds_toArray, List.set_cons_zero, List.set_cons_succ]) | (apply hO_or; (· rfl); (· rfl); (· rfl); (· rfl); simp only [Act.put, List.setIfInBounds_toArray, List.set_cons_zero, List.set_cons_succ]) | (apply hO_off; (· rfl); (· rfl); simp only [Act.put, List.setIfInBounds_toArray, List.set_cons_zero, List.set_cons_succ]) | (apply hO_val; (· intro w hS; go_simp; with_reducible rfl); (· rfl); simp only [Act.put, List.setIfInBounds_toArray, List.set_cons_zero, List.set_cons_succ]) | (apply hO_call; (· rfl); (· intro w hS; go_simp; exact ⟨rfl, rfl⟩); (· intro w hS; exact callX hS (HW.out _ hS)); simp only [Act.put, List.setIfInBounds_toArray, List.set_cons_zero, List.set_cons_succ]) | (apply hO_if; (· rfl); (· rfl); (· intro hif w hS; go_simp; with_reducible rfl); simp only [Act.put, List.setIfInBounds_toArray, List.set_cons_zero, List.set_cons_succ]) | (apply hO_ifcall; (· rfl); (· rfl); (· intro hif w hS; go_simp; exact ⟨rfl, rfl⟩); (· intro hif w hS; exact callX hS (HW.out _ hS)); simp only [Act.put, List.setIfInBounds_toArray, List.set_cons_zero, List.set_cons_succ]))); refine hO_nil ?_; refine hK _ ?_; clear hK K
  intro w2 hX2
  go_wp2_with (fail)
  go_ret
  exact ⟨by rw [HG.out]; rfl, hL.trans (hX2.below.mono hL.size)⟩
end Go.Proofs.YtknfdjnbndfboabGreatDoor
/- ref8.Made. -/
namespace Go.Proofs.YtknfdjnbndfboabGreatDoor
open Go.RowKit
attribute [local go_sem] setCell_twice ByteArray.toList_eq str_list Ext.alloc Ext.drew
set_option linter.unusedSimpArgs false
set_option maxRecDepth 100000
set_option maxHeartbeats 6400000
attribute [local irreducible] popN

theorem made8_any (s : TSet) (v : Value) (k : Nat) (w : World) (hv : Tasks w v s.tasks) (hp : Plain s) (hk : k < s.tasks.length) :
    Calls Tryz.prog 61 #[setV s v, .int .i64 k] w fun e w' => e = .returned (.int .i64 (madeN s k hk : Nat)) ∧ Below w.heap.size w w' := by
  have l1 := hv.len
  have hv0 := hv
  obtain ⟨A, c, rfl, hle, hcm, _⟩ := hv0
  go_enter Tryz.func61, Tryz.ntmps61
  unfold setV
  go_upto_region 1 with (fail)
  have hL : Below w.heap.size w (w.alloc (.cells #[.int .i64 s.reload, (.slice A s.tasks.length c)] 24)) := (by repeat (first | exact Below.refl _ _ | assumption | refine Below.drew ?_ | refine Below.alloc ?_ (by first | (simp; done) | (simp; omega) | omega) _ | refine Below.setCell ?_ (by first | (simp; done) | (simp; omega) | omega) _)); have hB : Blk (w.alloc (.cells #[.int .i64 s.reload, (.slice A s.tasks.length c)] 24)) w.heap.size #[.int .i64 s.reload, (.slice A s.tasks.length c)] 24 := Blk.new _ _ _
  have hr := hv.ext ⟨hL⟩
  generalize w.alloc _ = W at hL hB hr ⊢
  have hc := hB.under
  refine wp_region_all' (S := Ext W) (Ext.refl W) (fun K hK => ?_); (repeat (first | (apply hO_and; (· rfl); (· rfl); (· rfl); (· rfl); simp only [Act.put, List.setIfInBounds_toArray, List.set_cons_zero, List.set_cons_succ]) | (apply hO_or; (· rfl); (· rfl); (· rfl); (· rfl); simp only [Act.put, List.setIfInBounds_toArray, List.set_cons_zero, List.set_cons_succ]) | (apply hO_off; (· rfl); (· rfl); simp only [Act.put, List.setIfInBounds_toArray, List.set_cons_zero, List.set_cons_succ]) | (apply hO_val; (· intro w hS; go_simp; with_reducible rfl); (· rfl); simp only [Act.put, List.setIfInBounds_toArray, List.set_cons_zero, List.set_cons_succ]) | (apply hO_call; (· rfl); (· intro w hS; go_simp; exact ⟨rfl, rfl⟩); (· intro w hS; fail); simp only [Act.put, List.setIfInBounds_toArray, List.set_cons_zero, List.set_cons_succ]) | (apply hO_if; (· rfl); (· rfl); (· intro hif w hS; go_simp; with_reducible rfl); simp only [Act.put, List.setIfInBounds_toArray, List.set_cons_zero, List.set_cons_succ]) | (apply hO_ifcall; (· rfl); (· rfl); (· intro hif w hS; go_simp; exact ⟨rfl, rfl⟩); (· intro hif w hS; fail); simp only [Act.put, List.setIfInBounds_toArray, List.set_cons_zero, List.set_cons_succ]))); refine hO_nil ?_; refine forget_range 7 8 (Nat.le_of_ble_eq_true rfl) (fun junk => ?_); simp only [List.take_succ_cons, List.take_zero, List.drop_succ_cons, List.drop_zero, List.cons_append, List.nil_append, fillF, Nat.reduceAdd]; refine hK _ ?_; clear hK K
  intro w1 hX1
  have hd : (decide ((k : Int) < 0) || decide (s.tasks.length ≤ k)) = false := by simp; omega
  rw [hd]
  obtain ⟨b, o, r, rfl, hx⟩ := hr.at hk
  have he := hp.ecb _ (List.getElem_mem hk)
  obtain ⟨n0, hn0⟩ := Int.eq_ofNat_of_zero_le he.1
  have hn64 : n0 < 18446744073709551616 := by omega
  obtain ⟨z0, z1, z2, z3, z4, z5, z6, z7, z8⟩ := hx.under
  rw [hn0] at z7
  have hm0 := madeN_eq s k hk hp.reload
  rw [hn0, Int.toNat_natCast] at hm0
  have HE := Lib.hid hm0
  clear hm0 z0 z1 z2 z3 z4 z5 z6 z8
  go_wp2_with (fail)
  go_loopw [5, 6] (fun m i wr => ∃ q : Nat, q ≤ s.tasks.length - (k + 1) ∧ m = .int .u64 (orU ((s.tasks.drop (k + 1)).take q)) ∧ i = .int .i64 (k + 1 + q : Nat) ∧ Ext W wr) (fun _ i _ => s.tasks.length - (intOf i).toNat)
  case atStart => exact ⟨0, Nat.zero_le _, rfl, by simp, hX1⟩
  case round =>
    obtain ⟨q, hq, rfl, rfl, hX⟩ := hrel
    by_cases hlt : q < s.tasks.length - (k + 1)
    · obtain ⟨b2, o2, r2, e, hy⟩ := hr.at (k := k + 1 + q) (by omega)
      obtain ⟨rfl, rfl⟩ : b2 = b ∧ o2 = o := by cases e; exact ⟨rfl, rfl⟩
      have hu := hp.ucb _ (List.getElem_mem (show k + 1 + q < s.tasks.length by omega))
      have hst := orU_step (s.tasks.drop (k + 1)) q (by simp; omega)
      have hlt64 := orU_lt (s.tasks.drop (k + 1)) (fun t ht => hp.ucb t (List.mem_of_mem_drop ht)) q
      rw [List.getElem_drop] at hst
      generalize s.tasks[k + 1 + q] = x at hy hu hst
      obtain ⟨n, hn⟩ := Int.eq_ofNat_of_zero_le hu.1
      rw [hn, Int.toNat_natCast] at hst
      generalize orU ((s.tasks.drop (k + 1)).take q) = m at *
      have eor : bits BinOp.or IntKind.u64 (m : Int) (n : Int) = ((m ||| n : Nat) : Int) := bits_or_u64_nat _ _ hlt64 (by omega)
      obtain ⟨x0, x1, x2, x3, x4, x5, x6, x7, x8⟩ := hy.under
      rw [hn] at x8
      have hst2 := Lib.hid hst
      have y8 := x8 wr hX
      have hcr := fun i => hc wr hX i
      clear hst x0 x1 x2 x3 x4 x5 x6 x7 x8 z7
      have hj : k + 1 + q < s.tasks.length := by omega
      obtain ⟨j, hj2⟩ : ∃ j, j = k + 1 + q := ⟨_, rfl⟩
      rw [← hj2] at hj y8 ⊢
      have HJ := Lib.hid hj2
      clear hj2
      go_wp2_with (fail)
      have hj3 := HJ.out
      exact ⟨⟨q + 1, hlt, by rw [hst2.out], by rw [hj3]; rfl, hX⟩, by simp only [intOf]; omega⟩
    · obtain rfl : q = s.tasks.length - (k + 1) := by omega
      have hM := orU_lt (s.tasks.drop (k + 1)) (fun t ht => hp.ucb t (List.mem_of_mem_drop ht)) (s.tasks.length - (k + 1))
      rw [List.take_of_length_le (by simp)] at hM ⊢
      have hem := HE.out
      generalize orU (s.tasks.drop (k + 1)) = m at hM hem ⊢
      rw [Nat.and_comm] at hem
      have ea : bits BinOp.and IntKind.u64 (m : Int) (n0 : Int) = ((m &&& n0 : Nat) : Int) := bits_and_u64_nat _ _ hM hn64
      have hnm : m &&& n0 < 18446744073709551616 := Nat.lt_of_le_of_lt Nat.and_le_left hM
      have hcn := fun W => count2_any (m &&& n0) hnm W
      generalize popN 64 (m &&& n0) = pc at hem hcn
      have hmul := hem.1
      have hmb := hem.2
      generalize hmk : madeN s k hk = mk at hmul hmb
      have HM := Lib.hid hmk
      clear hmk hem
      have hwr : IntKind.i64.wrap (s.reload * (pc : Int)) = (mk : Int) := by rw [hmul, IntKind.wrap_i64]; omega
      have hke : (k + 1 + (s.tasks.length - (k + 1)) : Nat) = s.tasks.length := by omega
      rw [hke]
      clear hmul
      go_upto_region 8 with (fail)
      refine wp_region_all (S := Ext W) (by kernel_rfl) (by kernel_rfl) hX.drew (fun K hK => ?_); (repeat (first | (apply hO_and; (· rfl); (· rfl); (· rfl); (· rfl); simp only [Act.put, List.setIfInBounds_toArray, List.set_cons_zero, List.set_cons_succ]) | (apply hO_or; (· rfl); (· rfl); (· rfl); (· rfl); simp only [Act.put, List.setIfInBounds_toArray, List.set_cons_zero, List.set_cons_succ]) | (apply hO_off; (· rfl); (· rfl); simp only [Act.put, List.setIfInBounds_toArray, List.set_cons_zero, List.set_cons_succ]) | (apply hO_val; (· intro w hS; go_simp; with_reducible rfl); (· rfl); simp only [Act.put, List.setIfInBounds_toArray, List.set_cons_zero, List.set_cons_succ]) | (apply hO_call; (· rfl); (· intro w hS; go_simp; exact ⟨rfl, rfl⟩); (· intro w hS; exact callX hS (hcn _)); simp only [Act.put, List.setIfInBounds_toArray, List.set_cons_zero, List.set_cons_succ]) | (apply hO_if; (· rfl); (· rfl); (· intro hif w hS; go_simp; with_reducible rfl); simp only [Act.put, List.setIfInBounds_toArray, List.set_cons_zero, List.set_cons_succ]) | (apply hO_ifcall; (· rfl); (· rfl); (· intro hif w hS; go_simp; exact ⟨rfl, rfl⟩); (· intro hif w hS; exact callX hS (hcn _)); simp only [Act.put, List.setIfInBounds_toArray, List.set_cons_zero, List.set_cons_succ]))); refine hO_nil ?_; refine hK _ ?_; clear hK K
      intro w2 hX2
      go_wp2_with (fail)
      go_ret
      exact ⟨by rw [HM.out]; rfl, hL.trans (hX2.below.mono hL.size)⟩
end Go.Proofs.YtknfdjnbndfboabGreatDoor
