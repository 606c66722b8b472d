import Derived.Test.YtniejidekflmiaaGreatDoorProg
import Derived.Test.YtniejidekflmiaaGreatDoorBase
import Derived.Test.YtniejidekflmiaaGreatDoorLexM
import Derived.Test.YtniejidekflmiaaGreatDoorLex1
import Derived.Test.YtniejidekflmiaaGreatDoorTskM
import Derived.Test.YtniejidekflmiaaGreatDoorTsk1
import Derived.Test.YtniejidekflmiaaGreatDoorTsk2
import Derived.Test.YtniejidekflmiaaGreatDoorHeldX
import Derived.BigQuiet
import Derived.Deep.QuietTactic
namespace Go.Proofs.YtniejidekflmiaaGreatDoor
open Go.RowKit
attribute [local go_sem] setCell_twice ByteArray.toList_eq str_list
set_option linter.unusedSimpArgs false

/-- may a task be? -/
def isB (t : Tsk) (p : Int) : Bool := nameB t.name.data.toList && (regsB t.regs && (decide (workL t.regs ≤ t.D) && (decide (t.D ≤ t.T) && ((decide (t.T ≥ 0) && decide (t.T ≤ 10000)) && (modeB t p && (bits BinOp.andNot IntKind.u64 t.ucb t.ecb == 0))))))
set_option maxHeartbeats 6400000 in
set_option maxRecDepth 100000 in
theorem is_any (t : Tsk) (r : Value) (p : Int) (w : World) (hr : Ints w r t.regs) (hs : t.name.size ≤ maxLen) (hG : GOK w) :
    Calls Tryz.prog 57 #[tskV t r, .int .i64 p] w fun e w' => e = .returned (.bool (isB t p)) ∧ Below w.heap.size w w' := by
  go_enter Tryz.func57, Tryz.ntmps57
  unfold tskV
  go_wp2_with (fail)
  have hL : Below w.heap.size w (w.alloc (.cells #[.string t.name, .int .i64 t.T, .int .i64 t.D, .int .i64 t.mode, .int .i64 t.q, .int .i64 t.theta, r, .int .u64 t.ecb, .int .u64 t.ucb] 38)) := (by repeat (first | exact Below.refl _ _ | assumption | refine Below.drew ?_ | refine Below.alloc ?_ (by first | (simp; done) | (simp; omega) | omega) _ | refine Below.setCell ?_ (by first | (simp; done) | (simp; omega) | omega) _))
  have hB : Blk (w.alloc (.cells #[.string t.name, .int .i64 t.T, .int .i64 t.D, .int .i64 t.mode, .int .i64 t.q, .int .i64 t.theta, r, .int .u64 t.ecb, .int .u64 t.ucb] 38)) w.heap.size #[.string t.name, .int .i64 t.T, .int .i64 t.D, .int .i64 t.mode, .int .i64 t.q, .int .i64 t.theta, r, .int .u64 t.ecb, .int .u64 t.ucb] 38 := Blk.new _ _ _
  have hr0 := hr.below hL
  have hG0 := hG.below hL
  generalize w.alloc _ = W at hL hB hr0 hG0 ⊢
  have hc := hB.under
  refine wp_region_all (S := Ext W) (by kernel_rfl) (by kernel_rfl) (Ext.refl W).drew (fun K hK => ?_); (repeat (first | (apply hO_and; (· rfl); (· rfl); (· rfl); (· rfl); simp only [Act.put, List.setIfInBounds_toArray, List.set_cons_zero, List.set_cons_succ]) | (apply hO_or; (· rfl); (· rfl); (· rfl); (· rfl); simp only [Act.put, List.setIfInBounds_toArray, List.set_cons_zero, List.set_cons_succ]) | (apply hO_off; (· rfl); (· rfl); simp only [Act.put, List.setIfInBounds_toArray, List.set_cons_zero, List.set_cons_succ]) | (apply hO_val; (· intro w hS; go_simp; with_reducible rfl); (· rfl); simp only [Act.put, List.setIfInBounds_toArray, List.set_cons_zero, List.set_cons_succ]) | (apply hO_call; (· rfl); (· intro w hS; go_simp; exact ⟨rfl, rfl⟩); (· intro w hS; first | exact callX hS (isName_any _ _ hs (hG0.below hS.below)) | exact callS hS (isRegions_any _ _ _ (hr0.ext hS)) | exact callX hS (work_any t r _ (hr0.ext hS)) | exact callS hS (isTime_any _ _ _) | exact callX hS (isMode_any t r p _)); simp only [Act.put, List.setIfInBounds_toArray, List.set_cons_zero, List.set_cons_succ]) | (apply hO_if; (· rfl); (· rfl); (· intro hif w hS; go_simp; with_reducible rfl); simp only [Act.put, List.setIfInBounds_toArray, List.set_cons_zero, List.set_cons_succ]) | (apply hO_ifcall; (· rfl); (· rfl); (· intro hif w hS; go_simp; exact ⟨rfl, rfl⟩); (· intro hif w hS; first | exact callX hS (isName_any _ _ hs (hG0.below hS.below)) | exact callS hS (isRegions_any _ _ _ (hr0.ext hS)) | exact callX hS (work_any t r _ (hr0.ext hS)) | exact callS hS (isTime_any _ _ _) | exact callX hS (isMode_any t r p _)); simp only [Act.put, List.setIfInBounds_toArray, List.set_cons_zero, List.set_cons_succ]))); refine hO_nil ?_; refine hK _ ?_; clear hK K
  intro w1 hX1
  go_wp2_with (fail)
  go_ret
  refine ⟨rb ?_, hL.trans (hX1.below.mono hL.size)⟩
  simp only [isB, Bool.and_assoc]
end Go.Proofs.YtniejidekflmiaaGreatDoor
