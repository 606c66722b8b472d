/- AdmitSame. -/
import Derived.Test.YtknfdjnbndfboaaDoorProg
import Derived.Test.YtknfdjnbndfboaaDoorBase
import Derived.Test.YtknfdjnbndfboaaDoorHeldX
import Derived.Test.YtknfdjnbndfboaaDoorApp
import Derived.Test.YtknfdjnbndfboaaDoorTsk1
import Derived.Test.YtknfdjnbndfboaaDoorTsk3
import Derived.Test.YtknfdjnbndfboaaDoorTsk4
import Derived.Test.YtknfdjnbndfboaaDoorTskZ
import Derived.Test.YtknfdjnbndfboaaDoorTskP
import Derived.Test.YtknfdjnbndfboaaDoorTskA
import Derived.Test.YtknfdjnbndfboaaDoorTskO
import Derived.Test.YtknfdjnbndfboaaDoorSetO
import Derived.Test.YtknfdjnbndfboaaDoorRespS
import Derived.Test.YtknfdjnbndfboaaDoorResp
import Derived.Test.YtknfdjnbndfboaaDoorTolA
import Derived.Test.YtknfdjnbndfboaaDoorTolP
import Derived.Test.YtknfdjnbndfboaaDoorAdm
import Derived.Test.YtknfdjnbndfboaaDoorAdmS
import Derived.Test.YtknfdjnbndfboaaDoorLaw13k
import Derived.Deep.Cut
import Derived.Lib.Hide
namespace Go.Proofs.YtknfdjnbndfboaaDoor
open Go.RowKit
attribute [local go_sem] setCell_twice ByteArray.toList_eq str_list Ext.alloc Ext.drew
set_option linter.unusedSimpArgs false
set_option maxRecDepth 100000
set_option maxHeartbeats 6400000
attribute [local irreducible] popN Calls

theorem sameVd_rfl (a : Vd) : sameVd a a = true := by unfold sameVd; simp
theorem admitSame_walk (v : Value) (a : Vd) (u : Value) (b : Vd) (w : World) (hv : ∃ x, v = vdV a x ∧ Ints w x a.rs) (hu : ∃ x, u = vdV b x ∧ Ints w x b.rs) (hG : GOK w) :
    Calls Tryd.prog 9 #[v, u] w fun e w' => e = .returned (.bool true) ∧ Below w.heap.size w w' := by
  obtain ⟨x, rfl, hx⟩ := hv
  obtain ⟨y, rfl, hy⟩ := hu
  have hx0 := hx
  have hy0 := hy
  obtain ⟨A, c, rfl, _, _, _⟩ := hx0
  obtain ⟨A', c', rfl, _, _, _⟩ := hy0
  go_enter Tryd.func9, Tryd.ntmps9
  unfold vdV
  go_upto_region 1 with (fail)
  have hL : Below w.heap.size w ((w.alloc (.cells #[.int .i64 a.how, .int .i64 a.task, .slice A a.rs.length c] 44)).alloc (.cells #[.int .i64 b.how, .int .i64 b.task, .slice A' b.rs.length c'] 44)) := (by repeat (first | exact Below.refl _ _ | assumption | refine Below.drew ?_ | refine Below.alloc ?_ (by first | (simp; done) | (simp; omega) | omega) _ | refine Below.setCell ?_ (by first | (simp; done) | (simp; omega) | omega) _)); have hB : Blk ((w.alloc (.cells #[.int .i64 a.how, .int .i64 a.task, .slice A a.rs.length c] 44)).alloc (.cells #[.int .i64 b.how, .int .i64 b.task, .slice A' b.rs.length c'] 44)) w.heap.size #[.int .i64 a.how, .int .i64 a.task, .slice A a.rs.length c] 44 := (Blk.new _ _ _).alloc _; have hB2 : Blk ((w.alloc (.cells #[.int .i64 a.how, .int .i64 a.task, .slice A a.rs.length c] 44)).alloc (.cells #[.int .i64 b.how, .int .i64 b.task, .slice A' b.rs.length c'] 44)) (w.heap.size + 1) #[.int .i64 b.how, .int .i64 b.task, .slice A' b.rs.length c'] 44 := Blk.new_at _ _ _ _ (by simp)
  have hr := hx.ext ⟨hL⟩
  have hr2 := hy.ext ⟨hL⟩
  have hG0 := hG.below hL
  generalize (w.alloc _).alloc _ = W at hL hB hB2 hr hr2 hG0 ⊢
  have hc := hB.under
  have hc2 := hB2.under
  have HK := Lib.hid fun (W' : World) (h : Ext W W') => known13_any W' (hG0.below h.below)
  refine wp_region_all' (S := Ext W) (Ext.refl W) (fun K hK => ?_); (repeat (first | (apply hO_and; (· rfl); (· rfl); (· rfl); (· rfl); simp only [Act.put, List.setIfInBounds_toArray, List.set_cons_zero, List.set_cons_succ]) | (apply hO_or; (· rfl); (· rfl); (· rfl); (· rfl); simp only [Act.put, List.setIfInBounds_toArray, List.set_cons_zero, List.set_cons_succ]) | (apply hO_off; (· rfl); (· rfl); simp only [Act.put, List.setIfInBounds_toArray, List.set_cons_zero, List.set_cons_succ]) | (apply hO_val; (· intro w hS; go_simp; with_reducible rfl); (· rfl); simp only [Act.put, List.setIfInBounds_toArray, List.set_cons_zero, List.set_cons_succ]) | (apply hO_call; (· rfl); (· intro w hS; go_simp; exact ⟨rfl, rfl⟩); (· intro w hS; fail); simp only [Act.put, List.setIfInBounds_toArray, List.set_cons_zero, List.set_cons_succ]) | (apply hO_if; (· rfl); (· rfl); (· intro hif w hS; go_simp; with_reducible rfl); simp only [Act.put, List.setIfInBounds_toArray, List.set_cons_zero, List.set_cons_succ]) | (apply hO_ifcall; (· rfl); (· rfl); (· intro hif w hS; go_simp; exact ⟨rfl, rfl⟩); (· intro hif w hS; fail); simp only [Act.put, List.setIfInBounds_toArray, List.set_cons_zero, List.set_cons_succ]))); refine hO_nil ?_; refine forget_range 5 9 (Nat.le_of_ble_eq_true rfl) (fun junk => ?_); simp only [List.take_succ_cons, List.take_zero, List.drop_succ_cons, List.drop_zero, List.cons_append, List.nil_append, fillF, Nat.reduceAdd]; refine hK _ ?_; clear hK K
  intro w1 hX1
  have H1 := Lib.hid fun (W' : World) (h : Ext W W') => vdSame_any a b _ _ W' (hr.ext h) (hr2.ext h)
  have H2 := Lib.hid fun (W' : World) (h : Ext W W') => vdSame13_any a b _ _ W' (hr.ext h) (hr2.ext h)
  have H3 := Lib.hid fun (W' : World) (h : Ext W W') => vdSame_any a a _ _ W' (hr.ext h) (hr.ext h)
  rw [sameVd_rfl] at H3
  generalize sameVd a b = q at H1 H2
  unfold vdV at H1 H2 H3
  cases hq : (decide ((50 : Int) < (a.rs.length : Int)) || decide ((50 : Int) < (b.rs.length : Int))) with
  | true =>
    go_wp2_with (fail)
    go_ret
    exact ⟨rfl, hL.trans (hX1.below.mono hL.size)⟩
  | false =>
    clear hq
    go_upto_region 3 with (fail)
    refine wp_region_all (S := Ext W) (by kernel_rfl) (by kernel_rfl) hX1.drew (fun K hK => ?_); (repeat (first | (apply hO_and; (· rfl); (· rfl); (· rfl); (· rfl); simp only [Act.put, List.setIfInBounds_toArray, List.set_cons_zero, List.set_cons_succ]) | (apply hO_or; (· rfl); (· rfl); (· rfl); (· rfl); simp only [Act.put, List.setIfInBounds_toArray, List.set_cons_zero, List.set_cons_succ]) | (apply hO_off; (· rfl); (· rfl); simp only [Act.put, List.setIfInBounds_toArray, List.set_cons_zero, List.set_cons_succ]) | (apply hO_val; (· intro w hS; go_simp; with_reducible rfl); (· rfl); simp only [Act.put, List.setIfInBounds_toArray, List.set_cons_zero, List.set_cons_succ]) | (apply hO_call; (· rfl); (· intro w hS; go_simp; exact ⟨rfl, rfl⟩); (· intro w hS; first | exact callX hS (H1.out _ hS) | exact callX hS (H2.out _ hS) | exact callX hS (H3.out _ hS) | exact callX hS (HK.out _ hS)); simp only [Act.put, List.setIfInBounds_toArray, List.set_cons_zero, List.set_cons_succ]) | (apply hO_if; (· rfl); (· rfl); (· intro hif w hS; go_simp; with_reducible rfl); simp only [Act.put, List.setIfInBounds_toArray, List.set_cons_zero, List.set_cons_succ]) | (apply hO_ifcall; (· rfl); (· rfl); (· intro hif w hS; go_simp; exact ⟨rfl, rfl⟩); (· intro hif w hS; first | exact callX hS (H1.out _ hS) | exact callX hS (H2.out _ hS) | exact callX hS (H3.out _ hS) | exact callX hS (HK.out _ hS)); simp only [Act.put, List.setIfInBounds_toArray, List.set_cons_zero, List.set_cons_succ]))); refine hO_nil ?_; refine hK _ ?_; clear hK K
    intro w2 hX2
    go_wp2_with (fail)
    go_ret
    exact ⟨by first | rfl | (simp; done), hL.trans (hX2.below.mono hL.size)⟩
end Go.Proofs.YtknfdjnbndfboaaDoor
