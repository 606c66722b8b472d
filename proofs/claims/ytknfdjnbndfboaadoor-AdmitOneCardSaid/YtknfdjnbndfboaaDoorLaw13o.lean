/- AdmitOne. -/
import Derived.Test.YtknfdjnbndfboaaDoorProg
import Derived.Test.YtknfdjnbndfboaaDoorBase
import Derived.Test.YtknfdjnbndfboaaDoorHeldX
import Derived.Test.YtknfdjnbndfboaaDoorApp
import Derived.Test.YtknfdjnbndfboaaDoorTsk1
import Derived.Test.YtknfdjnbndfboaaDoorTsk3
import Derived.Test.YtknfdjnbndfboaaDoorTsk4
import Derived.Test.YtknfdjnbndfboaaDoorTskZ
import Derived.Test.YtknfdjnbndfboaaDoorTskP
import Derived.Test.YtknfdjnbndfboaaDoorTskA
import Derived.Test.YtknfdjnbndfboaaDoorTskO
import Derived.Test.YtknfdjnbndfboaaDoorSetO
import Derived.Test.YtknfdjnbndfboaaDoorRespS
import Derived.Test.YtknfdjnbndfboaaDoorResp
import Derived.Test.YtknfdjnbndfboaaDoorTolA
import Derived.Test.YtknfdjnbndfboaaDoorTolP
import Derived.Test.YtknfdjnbndfboaaDoorAdm
import Derived.Test.YtknfdjnbndfboaaDoorLaw13k
import Derived.Deep.Cut
import Derived.Lib.Hide
namespace Go.Proofs.YtknfdjnbndfboaaDoor
open Go.RowKit
attribute [local go_sem] setCell_twice ByteArray.toList_eq str_list Ext.alloc Ext.drew
set_option linter.unusedSimpArgs false
set_option maxRecDepth 100000
set_option maxHeartbeats 6400000
attribute [local irreducible] popN Calls

theorem tasks_alone {w : World} {g : Nat} {t : Tsk} {r : Value} {e : TypeId} (hT : Blk w g #[.string t.name, .int .i64 t.T, .int .i64 t.D, .int .i64 t.mode, .int .i64 t.q, .int .i64 t.theta, r, .int .u64 t.ecb, .int .u64 t.ucb] e) (hI : Ints w r t.regs) : Tasks w (.slice (some ⟨g, 0, none⟩) 1 1) [t] := by
  refine ⟨_, 1, rfl, Nat.le_refl _, by unfold maxLen; decide, fun _ => ⟨g, 0, rfl, fun i hi => ?_⟩⟩
  have hi0 : i = 0 := by simpa using hi
  subst hi0
  exact ⟨r, hI, hT.cell 0, hT.cell 1, hT.cell 2, hT.cell 3, hT.cell 4, hT.cell 5, hT.cell 6, hT.cell 7, hT.cell 8⟩
theorem admitOne_walk (v : Value) (t : Tsk) (reload : Int) (w : World) (hv : ∃ r, v = tskV t r ∧ Ints w r t.regs ∧ t.fit) (wr : (Lit.int .i64 reload).wf = true) (hG : GOK w) :
    Calls Tryd.prog 7 #[v, .int .i64 reload] w fun e w' => e = .returned (.bool true) ∧ Below w.heap.size w w' := by
  obtain ⟨r, rfl, hI, hft⟩ := hv
  have hI0 := hI
  obtain ⟨A, c, rfl, _, _, _⟩ := hI0
  have hf : (TSet.mk reload [t]).fit := ⟨wr, (show 1 * 96 ≤ 140737488351232 by decide), fun u hu => by
    have : u = t := by simpa using hu
    subst this
    exact hft⟩
  have HK := Lib.hid fun (W' : World) (h : Ext w W') => known13_any W' (hG.below h.below)
  have HJ := Lib.hid fun (u : Value) (W' : World) (hT : Tasks W' u [t]) (h : Ext w W') => judge_any ⟨reload, [t]⟩ u W' hT hf (hG.below h.below)
  have HA := Lib.hid fun (u : Value) (W' : World) (hT : Tasks W' u [t]) => allR_any ⟨reload, [t]⟩ u W' hT hf.good
  have HW := Lib.hid fun (W' : World) (h : Ext w W') => workR_any t (.slice A t.regs.length c) W' (hI.ext h)
  go_enter Tryd.func7, Tryd.ntmps7
  unfold tskV at HW ⊢
  go_upto_region 2 with (fail)
  generalize hW : World.alloc _ (.cells _ 24) = W
  have hX : Ext w W := ⟨by rw [← hW]; exact (by repeat (first | exact Below.refl _ _ | assumption | refine Below.drew ?_ | refine Below.alloc ?_ (by first | (simp; done) | (simp; omega) | omega) _ | refine Below.setCell ?_ (by first | (simp; done) | (simp; omega) | omega) _))⟩
  have hBt : Blk W w.heap.size #[.string t.name, .int .i64 t.T, .int .i64 t.D, .int .i64 t.mode, .int .i64 t.q, .int .i64 t.theta, (.slice A t.regs.length c), .int .u64 t.ecb, .int .u64 t.ucb] 34 := by rw [← hW]; exact ((Blk.new _ _ _).alloc _).alloc _
  have hBs : Blk W (w.heap.size + 1) #[.string t.name, .int .i64 t.T, .int .i64 t.D, .int .i64 t.mode, .int .i64 t.q, .int .i64 t.theta, (.slice A t.regs.length c), .int .u64 t.ecb, .int .u64 t.ucb] 34 := by rw [← hW]; exact (Blk.new_at _ _ _ _ (by simp)).alloc _
  have hB : Blk W (w.heap.size + 1 + 1) #[.int .i64 reload, .slice (some ⟨w.heap.size + 1, 0, none⟩) 1 1] 24 := by rw [← hW]; exact Blk.new_at _ _ _ _ (by simp)
  clear hW
  have hT := tasks_alone hBs (hI.ext hX)
  have hc := hB.cell
  have hA := HA.out _ W hT
  unfold setV at hA
  go_wp2_with (fail)
  refine hA.mono ?_
  rintro e w1 ⟨rfl, hb1⟩
  have hX1 : Ext W w1 := ⟨hb1⟩
  clear hc
  cases hal : allB ⟨reload, [t]⟩ with
  | false =>
    go_wp2_with (fail)
    go_ret
    exact ⟨rfl, (hX.trans hX1).below⟩
  | true =>
    have hs := fine_of hal hf
    have hj : judgeA ⟨reload, [t]⟩ = ⟨1, 0, [workL t.regs]⟩ := by unfold judgeA; rw [if_pos hal]; exact judge_one hs rfl
    have he : errA ⟨reload, [t]⟩ = 0 := by unfold errA; rw [if_pos hal]
    have hJ := HJ.out _ w1 (hT.ext hX1) (hX.trans hX1)
    rw [hj, he] at hJ
    unfold setV vdV at hJ
    dsimp only at hJ
    have hc1 := (hB.ext hX1).cell
    generalize workL t.regs = wk at HW hJ
    clear hal hj he HJ HA
    go_wp2_with (fail)
    refine hJ.mono ?_
    rintro e w2 ⟨r2, rfl, hO, hb2⟩
    have hX2 := (hX.trans hX1).call hb2
    obtain ⟨A2, c2, rfl, _, _⟩ := OwnL.form hO
    have hI2 : Ints w2 (.slice A2 1 c2) [wk] := hO.ints
    have hBt2 := (hBt.ext hX1).ext ⟨hb2⟩
    clear hc1 hO hb2
    go_upto_region 5 with (fail)
    have hX3 := hX2.alloc (.cells #[.int .i64 1, .int .i64 0, .slice A2 1 c2] 44)
    have hV : Blk (w2.alloc (.cells #[.int .i64 1, .int .i64 0, .slice A2 1 c2] 44)) w2.heap.size #[.int .i64 1, .int .i64 0, .slice A2 1 c2] 44 := Blk.new _ _ _
    have hI3 := hI2.ext ((Ext.refl w2).alloc (.cells #[.int .i64 1, .int .i64 0, .slice A2 1 c2] 44))
    have hBt3 := hBt2.alloc (.cells #[.int .i64 1, .int .i64 0, .slice A2 1 c2] 44)
    generalize w2.heap.size = gv at hV ⊢
    generalize w2.alloc _ = w3 at hX3 hV hI3 hBt3 ⊢
    have hcV := hV.under
    have hcT := hBt3.under
    obtain ⟨b4, o4, rfl, hy⟩ := hI3.at (k := 0) (by simp)
    have hy0 : ∀ w', Ext w3 w' → w'.cell? ⟨b4, o4, none⟩ = some (.int .i64 wk) := hy
    have HW3 := Lib.hid fun W' (h : Ext w3 W') => HW.out W' (hX3.trans h)
    have HK3 := Lib.hid fun W' (h : Ext w3 W') => HK.out W' (hX3.trans h)
    refine wp_region_all (S := Ext w3) (by kernel_rfl) (by kernel_rfl) (Ext.refl w3).drew (fun K hK => ?_); (repeat (first | (apply hO_and; (· rfl); (· rfl); (· rfl); (· rfl); simp only [Act.put, List.setIfInBounds_toArray, List.set_cons_zero, List.set_cons_succ]) | (apply hO_or; (· rfl); (· rfl); (· rfl); (· rfl); simp only [Act.put, List.setIfInBounds_toArray, List.set_cons_zero, List.set_cons_succ]) | (apply hO_off; (· rfl); (· rfl); simp only [Act.put, List.setIfInBounds_toArray, List.set_cons_zero, List.set_cons_succ]) | (apply hO_val; (· intro w hS; go_simp; with_reducible rfl); (· rfl); simp only [Act.put, List.setIfInBounds_toArray, List.set_cons_zero, List.set_cons_succ]) | (apply hO_call; (· rfl); (· intro w hS; go_simp; exact ⟨rfl, rfl⟩); (· intro w hS; first | exact callX hS (HW3.out _ hS) | exact callX hS (HK3.out _ hS)); simp only [Act.put, List.setIfInBounds_toArray, List.set_cons_zero, List.set_cons_succ]) | (apply hO_if; (· rfl); (· rfl); (· intro hif w hS; go_simp; with_reducible rfl); simp only [Act.put, List.setIfInBounds_toArray, List.set_cons_zero, List.set_cons_succ]) | (apply hO_ifcall; (· rfl); (· rfl); (· intro hif w hS; go_simp; exact ⟨rfl, rfl⟩); (· intro hif w hS; first | exact callX hS (HW3.out _ hS) | exact callX hS (HK3.out _ hS)); simp only [Act.put, List.setIfInBounds_toArray, List.set_cons_zero, List.set_cons_succ]))); refine hO_nil ?_; refine hK _ ?_; clear hK K
    intro w4 hX4
    go_wp2_with (fail)
    go_ret
    exact ⟨by first | rfl | (simp; done), (hX3.trans hX4).below⟩
end Go.Proofs.YtknfdjnbndfboaaDoor
