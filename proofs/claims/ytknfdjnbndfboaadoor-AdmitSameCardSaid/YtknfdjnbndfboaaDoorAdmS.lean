/- admit.Same, ref13.Same. -/
import Derived.Test.YtknfdjnbndfboaaDoorProg
import Derived.Test.YtknfdjnbndfboaaDoorBase
import Derived.Test.YtknfdjnbndfboaaDoorHeldX
import Derived.Test.YtknfdjnbndfboaaDoorApp
import Derived.Test.YtknfdjnbndfboaaDoorTsk1
import Derived.Test.YtknfdjnbndfboaaDoorTsk3
import Derived.Test.YtknfdjnbndfboaaDoorTskZ
import Derived.Test.YtknfdjnbndfboaaDoorTskP
import Derived.Test.YtknfdjnbndfboaaDoorTskE
import Derived.Test.YtknfdjnbndfboaaDoorTskD
import Derived.Test.YtknfdjnbndfboaaDoorAdm
import Derived.Test.YtknfdjnbndfboaaDoorTolP
import Derived.Deep.Cut
import Derived.Lib.Hide
namespace Go.Proofs.YtknfdjnbndfboaaDoor
open Go.RowKit
attribute [local go_sem] setCell_twice ByteArray.toList_eq str_list Ext.alloc Ext.drew
set_option linter.unusedSimpArgs false
set_option maxRecDepth 100000
set_option maxHeartbeats 6400000

def sameVd (a b : Vd) : Bool := a.how == b.how && a.task == b.task && decide (a.rs = b.rs)
theorem vdSame_any (a b : Vd) (v u : Value) (w : World) (hv : Ints w v a.rs) (hu : Ints w u b.rs) :
    Calls Tryd.prog 24 #[vdV a v, vdV b u] w fun e w' => e = .returned (.bool (sameVd a b)) ∧ Below w.heap.size w w' := by
  have hv0 := hv
  have hu0 := hu
  obtain ⟨A, c, rfl, _, _, _⟩ := hv0
  obtain ⟨A', c', rfl, _, _, _⟩ := hu0
  have hS : sameVd a b = (a.how == b.how && a.task == b.task && decide (a.rs = b.rs)) := rfl
  have HS := Lib.hid hS
  clear hS
  go_enter Tryd.func24, Tryd.ntmps24
  unfold vdV
  go_upto_region 1 with (fail)
  have hL : Below w.heap.size w ((w.alloc (.cells #[.int .i64 a.how, .int .i64 a.task, .slice A a.rs.length c] 44)).alloc (.cells #[.int .i64 b.how, .int .i64 b.task, .slice A' b.rs.length c'] 44)) := (by repeat (first | exact Below.refl _ _ | assumption | refine Below.drew ?_ | refine Below.alloc ?_ (by first | (simp; done) | (simp; omega) | omega) _ | refine Below.setCell ?_ (by first | (simp; done) | (simp; omega) | omega) _)); have hB : Blk ((w.alloc (.cells #[.int .i64 a.how, .int .i64 a.task, .slice A a.rs.length c] 44)).alloc (.cells #[.int .i64 b.how, .int .i64 b.task, .slice A' b.rs.length c'] 44)) w.heap.size #[.int .i64 a.how, .int .i64 a.task, .slice A a.rs.length c] 44 := (Blk.new _ _ _).alloc _; have hB2 : Blk ((w.alloc (.cells #[.int .i64 a.how, .int .i64 a.task, .slice A a.rs.length c] 44)).alloc (.cells #[.int .i64 b.how, .int .i64 b.task, .slice A' b.rs.length c'] 44)) (w.heap.size + 1) #[.int .i64 b.how, .int .i64 b.task, .slice A' b.rs.length c'] 44 := Blk.new_at _ _ _ _ (by simp)
  have hr := hv.ext ⟨hL⟩
  have hr2 := hu.ext ⟨hL⟩
  generalize (w.alloc _).alloc _ = W at hL hB hB2 hr hr2 ⊢
  have hc := hB.under
  have hc2 := hB2.under
  refine wp_region_all' (S := Ext W) (Ext.refl W) (fun K hK => ?_); (repeat (first | (apply hO_and; (· rfl); (· rfl); (· rfl); (· rfl); simp only [Act.put, List.setIfInBounds_toArray, List.set_cons_zero, List.set_cons_succ]) | (apply hO_or; (· rfl); (· rfl); (· rfl); (· rfl); simp only [Act.put, List.setIfInBounds_toArray, List.set_cons_zero, List.set_cons_succ]) | (apply hO_off; (· rfl); (· rfl); simp only [Act.put, List.setIfInBounds_toArray, List.set_cons_zero, List.set_cons_succ]) | (apply hO_val; (· intro w hS; go_simp; with_reducible rfl); (· rfl); simp only [Act.put, List.setIfInBounds_toArray, List.set_cons_zero, List.set_cons_succ]) | (apply hO_call; (· rfl); (· intro w hS; go_simp; exact ⟨rfl, rfl⟩); (· intro w hS; first | exact callS hS (equal_any _ _ a.rs b.rs _ (hr.ext hS) (hr2.ext hS)) | exact callX hS (equal_any _ _ a.rs b.rs _ (hr.ext hS) (hr2.ext hS))); simp only [Act.put, List.setIfInBounds_toArray, List.set_cons_zero, List.set_cons_succ]) | (apply hO_if; (· rfl); (· rfl); (· intro hif w hS; go_simp; with_reducible rfl); simp only [Act.put, List.setIfInBounds_toArray, List.set_cons_zero, List.set_cons_succ]) | (apply hO_ifcall; (· rfl); (· rfl); (· intro hif w hS; go_simp; exact ⟨rfl, rfl⟩); (· intro hif w hS; first | exact callS hS (equal_any _ _ a.rs b.rs _ (hr.ext hS) (hr2.ext hS)) | exact callX hS (equal_any _ _ a.rs b.rs _ (hr.ext hS) (hr2.ext hS))); simp only [Act.put, List.setIfInBounds_toArray, List.set_cons_zero, List.set_cons_succ]))); refine hO_nil ?_; refine forget_range 5 18 (Nat.le_of_ble_eq_true rfl) (fun junk => ?_); simp only [List.take_succ_cons, List.take_zero, List.drop_succ_cons, List.drop_zero, List.cons_append, List.nil_append, fillF, Nat.reduceAdd]; refine hK _ ?_; clear hK K
  intro w1 hX1
  go_wp2_with (fail)
  go_ret
  exact ⟨by rw [HS.out]; rfl, hL.trans (hX1.below.mono hL.size)⟩
theorem vdSame13_any (a b : Vd) (v u : Value) (w : World) (hv : Ints w v a.rs) (hu : Ints w u b.rs) :
    Calls Tryd.prog 25 #[vdV a v, vdV b u] w fun e w' => e = .returned (.bool (sameVd a b)) ∧ Below w.heap.size w w' := by
  have hv0 := hv
  have hu0 := hu
  obtain ⟨A, c, rfl, _, _, _⟩ := hv0
  obtain ⟨A', c', rfl, _, _, _⟩ := hu0
  have hS : sameVd a b = (a.how == b.how && a.task == b.task && decide (a.rs = b.rs)) := rfl
  have HS := Lib.hid hS
  clear hS
  go_enter Tryd.func25, Tryd.ntmps25
  unfold vdV
  go_upto_region 1 with (fail)
  have hL : Below w.heap.size w ((w.alloc (.cells #[.int .i64 a.how, .int .i64 a.task, .slice A a.rs.length c] 44)).alloc (.cells #[.int .i64 b.how, .int .i64 b.task, .slice A' b.rs.length c'] 44)) := (by repeat (first | exact Below.refl _ _ | assumption | refine Below.drew ?_ | refine Below.alloc ?_ (by first | (simp; done) | (simp; omega) | omega) _ | refine Below.setCell ?_ (by first | (simp; done) | (simp; omega) | omega) _)); have hB : Blk ((w.alloc (.cells #[.int .i64 a.how, .int .i64 a.task, .slice A a.rs.length c] 44)).alloc (.cells #[.int .i64 b.how, .int .i64 b.task, .slice A' b.rs.length c'] 44)) w.heap.size #[.int .i64 a.how, .int .i64 a.task, .slice A a.rs.length c] 44 := (Blk.new _ _ _).alloc _; have hB2 : Blk ((w.alloc (.cells #[.int .i64 a.how, .int .i64 a.task, .slice A a.rs.length c] 44)).alloc (.cells #[.int .i64 b.how, .int .i64 b.task, .slice A' b.rs.length c'] 44)) (w.heap.size + 1) #[.int .i64 b.how, .int .i64 b.task, .slice A' b.rs.length c'] 44 := Blk.new_at _ _ _ _ (by simp)
  have hr := hv.ext ⟨hL⟩
  have hr2 := hu.ext ⟨hL⟩
  generalize (w.alloc _).alloc _ = W at hL hB hB2 hr hr2 ⊢
  have hc := hB.under
  have hc2 := hB2.under
  refine wp_region_all' (S := Ext W) (Ext.refl W) (fun K hK => ?_); (repeat (first | (apply hO_and; (· rfl); (· rfl); (· rfl); (· rfl); simp only [Act.put, List.setIfInBounds_toArray, List.set_cons_zero, List.set_cons_succ]) | (apply hO_or; (· rfl); (· rfl); (· rfl); (· rfl); simp only [Act.put, List.setIfInBounds_toArray, List.set_cons_zero, List.set_cons_succ]) | (apply hO_off; (· rfl); (· rfl); simp only [Act.put, List.setIfInBounds_toArray, List.set_cons_zero, List.set_cons_succ]) | (apply hO_val; (· intro w hS; go_simp; with_reducible rfl); (· rfl); simp only [Act.put, List.setIfInBounds_toArray, List.set_cons_zero, List.set_cons_succ]) | (apply hO_call; (· rfl); (· intro w hS; go_simp; exact ⟨rfl, rfl⟩); (· intro w hS; first | exact callS hS (nums_any _ _ a.rs b.rs _ (hr.ext hS) (hr2.ext hS)) | exact callX hS (nums_any _ _ a.rs b.rs _ (hr.ext hS) (hr2.ext hS))); simp only [Act.put, List.setIfInBounds_toArray, List.set_cons_zero, List.set_cons_succ]) | (apply hO_if; (· rfl); (· rfl); (· intro hif w hS; go_simp; with_reducible rfl); simp only [Act.put, List.setIfInBounds_toArray, List.set_cons_zero, List.set_cons_succ]) | (apply hO_ifcall; (· rfl); (· rfl); (· intro hif w hS; go_simp; exact ⟨rfl, rfl⟩); (· intro hif w hS; first | exact callS hS (nums_any _ _ a.rs b.rs _ (hr.ext hS) (hr2.ext hS)) | exact callX hS (nums_any _ _ a.rs b.rs _ (hr.ext hS) (hr2.ext hS))); simp only [Act.put, List.setIfInBounds_toArray, List.set_cons_zero, List.set_cons_succ]))); refine hO_nil ?_; refine forget_range 5 18 (Nat.le_of_ble_eq_true rfl) (fun junk => ?_); simp only [List.take_succ_cons, List.take_zero, List.drop_succ_cons, List.drop_zero, List.cons_append, List.nil_append, fillF, Nat.reduceAdd]; refine hK _ ?_; clear hK K
  intro w1 hX1
  go_wp2_with (fail)
  go_ret
  exact ⟨by rw [HS.out]; rfl, hL.trans (hX1.below.mono hL.size)⟩
end Go.Proofs.YtknfdjnbndfboaaDoor
