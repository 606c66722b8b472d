/- AdmitJudges. -/
import Derived.Test.YtknfdjnbndfboaaGreatDoorProg
import Derived.Test.YtknfdjnbndfboaaGreatDoorBase
import Derived.Test.YtknfdjnbndfboaaGreatDoorHeldX
import Derived.Test.YtknfdjnbndfboaaGreatDoorApp
import Derived.Test.YtknfdjnbndfboaaGreatDoorTsk1
import Derived.Test.YtknfdjnbndfboaaGreatDoorTsk3
import Derived.Test.YtknfdjnbndfboaaGreatDoorTsk4
import Derived.Test.YtknfdjnbndfboaaGreatDoorTskZ
import Derived.Test.YtknfdjnbndfboaaGreatDoorTskP
import Derived.Test.YtknfdjnbndfboaaGreatDoorTskA
import Derived.Test.YtknfdjnbndfboaaGreatDoorTskO
import Derived.Test.YtknfdjnbndfboaaGreatDoorSetO
import Derived.Test.YtknfdjnbndfboaaGreatDoorRespS
import Derived.Test.YtknfdjnbndfboaaGreatDoorResp
import Derived.Test.YtknfdjnbndfboaaGreatDoorTolA
import Derived.Test.YtknfdjnbndfboaaGreatDoorTolP
import Derived.Test.YtknfdjnbndfboaaGreatDoorAdm
import Derived.Test.YtknfdjnbndfboaaGreatDoorAdmS
import Derived.Test.YtknfdjnbndfboaaGreatDoorRefJ
import Derived.Test.YtknfdjnbndfboaaGreatDoorLaw13k
import Derived.Deep.Cut
import Derived.Lib.Hide
namespace Go.Proofs.YtknfdjnbndfboaaGreatDoor
open Go.RowKit
attribute [local go_sem] setCell_twice ByteArray.toList_eq str_list Ext.alloc Ext.drew
set_option linter.unusedSimpArgs false
set_option maxRecDepth 100000
set_option maxHeartbeats 6400000
attribute [local irreducible] popN

theorem sameVd_self (a : Vd) : sameVd a a = true := by unfold sameVd; simp
theorem admitJudges_walk (v : Value) (s : TSet) (w : World) (hv : ∃ x, v = setV s x ∧ Tasks w x s.tasks ∧ s.fit) (hG : GOK w) :
    Calls Tryz.prog 4 #[v] w fun e w' => e = .returned (.bool true) ∧ Below w.heap.size w w' := by
  obtain ⟨x, rfl, hx, hf⟩ := hv
  have l1 := hx.len
  have hg := hf.good
  have hx0 := hx
  obtain ⟨A, c, rfl, hle, hcm, _⟩ := hx0
  unfold maxLen at hcm
  go_enter Tryz.func4, Tryz.ntmps4
  unfold setV
  go_upto_region 1 with (fail)
  have hL : Below w.heap.size w (w.alloc (.cells #[.int .i64 s.reload, (.slice A s.tasks.length c)] 24)) := (by repeat (first | exact Below.refl _ _ | assumption | refine Below.drew ?_ | refine Below.alloc ?_ (by first | (simp; done) | (simp; omega) | omega) _ | refine Below.setCell ?_ (by first | (simp; done) | (simp; omega) | omega) _)); have hB : Blk (w.alloc (.cells #[.int .i64 s.reload, (.slice A s.tasks.length c)] 24)) w.heap.size #[.int .i64 s.reload, (.slice A s.tasks.length c)] 24 := Blk.new _ _ _
  have hr := hx.ext ⟨hL⟩
  have hG0 := hG.below hL
  generalize w.alloc _ = W at hL hB hr hG0 ⊢
  have hc := hB.under
  have hc0 := hc W (Ext.refl W)
  have HK := Lib.hid fun (W' : World) (h : Ext W W') => known13_any W' (hG0.below h.below)
  go_wp2_with (fail)
  refine (may13_any s _ _ hr).mono ?_
  rintro e w1 ⟨rfl, hb1⟩
  have hX1 : Ext W w1 := ⟨hb1⟩
  clear hc0 hb1
  cases hm : may13 s with
  | false =>
    go_wp2_with (fail)
    go_ret
    exact ⟨rfl, hL.trans (hX1.below.mono hL.size)⟩
  | true =>
    have hJ := judge_any s (.slice A s.tasks.length c) w1 (hr.ext hX1) hf (hG0.below hX1.below)
    have HA := Lib.hid fun (W' : World) (h : Ext W W') => allR_any s (.slice A s.tasks.length c) W' (hr.ext h) hg
    have hc1 := hc w1 hX1
    clear hm
    cases hal : allB s with
    | false =>
      have hj : judgeA s = ⟨0, 0, []⟩ := by unfold judgeA; rw [hal]; rfl
      have he : errA s = 1 := by unfold errA; rw [hal]; rfl
      rw [hj, he] at hJ
      rw [hal] at HA
      clear hj he hal
      go_wp2_with (fail)
      refine hJ.mono ?_
      rintro e w2 ⟨r, rfl, hO, hb2⟩
      have hX2 := hX1.call hb2
      have hI := hO.ints
      obtain ⟨A2, c2, rfl, _, _⟩ := OwnL.form hO
      clear hc1 hb2 hO
      unfold vdV
      dsimp only
      go_upto_region 4 with (fail)
      have hX3 := hX2.alloc (.cells #[.int .i64 0, .int .i64 0, .slice A2 ([] : List Int).length c2] 28)
      have hV : Blk (w2.alloc (.cells #[.int .i64 0, .int .i64 0, .slice A2 ([] : List Int).length c2] 28)) w2.heap.size #[.int .i64 0, .int .i64 0, .slice A2 ([] : List Int).length c2] 28 := Blk.new _ _ _
      have hI3 := hI.ext ((Ext.refl w2).alloc (.cells #[.int .i64 0, .int .i64 0, .slice A2 ([] : List Int).length c2] 28))
      generalize w2.heap.size = gv at hV ⊢
      generalize w2.alloc _ = w3 at hX3 hV hI3 ⊢
      have hc3 := hc w3 hX3
      go_wp2_with (fail)
      refine (HA.out w3 hX3).mono ?_
      rintro e w4 ⟨rfl, hb4⟩
      have hX4 := hX3.call hb4
      have hcV := (hV.ext ⟨hb4⟩).cell
      have hI4 := hI3.ext ⟨hb4⟩
      have hS := vdSame_any ⟨0, 0, []⟩ ⟨0, 0, []⟩ (.slice A2 ([] : List Int).length c2) (.slice none 0 0) w4 hI4 ⟨none, 0, rfl, Nat.le_refl _, Nat.zero_le _, fun h => absurd rfl h⟩
      rw [sameVd_self] at hS
      unfold vdV at hS
      dsimp only at hS
      clear hc3
      go_wp2_with (fail)
      refine hS.mono ?_
      rintro e w5 ⟨rfl, hb5⟩
      have hX5 := hX4.call hb5
      go_wp2_with (fail)
      refine (HK.out w5 hX5).mono ?_
      rintro e w6 ⟨rfl, hb6⟩
      go_wp2_with (fail)
      go_ret
      exact ⟨rfl, hL.trans ((hX5.call hb6).below.mono hL.size)⟩
    | true =>
      have hs := fine_of hal hf
      have hj : judgeA s = judgeS s := by unfold judgeA; rw [hal]; rfl
      have he : errA s = 0 := by unfold errA; rw [hal]; rfl
      have HJ := Lib.hid fun (W' : World) (h : Ext W W') => judge13_any s (.slice A s.tasks.length c) W' (hr.ext h) hs
      rw [hj, he] at hJ
      rw [hal] at HA
      clear hj he hal
      generalize judgeS s = d at hJ HJ
      go_wp2_with (fail)
      refine hJ.mono ?_
      rintro e w2 ⟨r, rfl, hO, hb2⟩
      have hX2 := hX1.call hb2
      have hI := hO.ints
      obtain ⟨A2, c2, rfl, _, _⟩ := OwnL.form hO
      clear hc1 hb2 hO
      unfold vdV
      go_upto_region 4 with (fail)
      have hX3 := hX2.alloc (.cells #[.int .i64 d.how, .int .i64 d.task, .slice A2 d.rs.length c2] 28)
      have hV : Blk (w2.alloc (.cells #[.int .i64 d.how, .int .i64 d.task, .slice A2 d.rs.length c2] 28)) w2.heap.size #[.int .i64 d.how, .int .i64 d.task, .slice A2 d.rs.length c2] 28 := Blk.new _ _ _
      have hI3 := hI.ext ((Ext.refl w2).alloc (.cells #[.int .i64 d.how, .int .i64 d.task, .slice A2 d.rs.length c2] 28))
      generalize w2.heap.size = gv at hV ⊢
      generalize w2.alloc _ = w3 at hX3 hV hI3 ⊢
      have hc3 := hc w3 hX3
      go_wp2_with (fail)
      refine (HA.out w3 hX3).mono ?_
      rintro e w4 ⟨rfl, hb4⟩
      have hX4 := hX3.call hb4
      have hV4 := hV.ext ⟨hb4⟩
      have hI4 := hI3.ext ⟨hb4⟩
      have hcV := hV4.under
      have hc4 := fun W' (h : Ext w4 W') => hc W' (hX4.trans h)
      clear hc3 hc
      go_upto_region 6 with (fail)
      refine wp_region_mix (T := [5, 6, 7, 8, 9, 10, 11]) (S := Ext w4) (W := w4) (Ext.mono w4) (by kernel_rfl) (by kernel_rfl) (Ext.refl w4).drew (Ext.refl w4) (fun _ _ h => h) (fun K hK => ?_)
      (repeat (first | (refine hX_skip ?_ ?_; (· rfl)) | (apply hX_and; (· rfl); (· rfl); (· rfl); (· rfl); (· rfl); simp only [Act.put, List.setIfInBounds_toArray, List.set_cons_zero, List.set_cons_succ]) | (apply hX_or; (· rfl); (· rfl); (· rfl); (· rfl); (· rfl); simp only [Act.put, List.setIfInBounds_toArray, List.set_cons_zero, List.set_cons_succ]) | (apply hX_off; (· rfl); (· rfl); (· rfl); simp only [Act.put, List.setIfInBounds_toArray, List.set_cons_zero, List.set_cons_succ]) | (apply hX_val; (· rfl); (· intro w hS; go_simp; with_reducible rfl); (· rfl); simp only [Act.put, List.setIfInBounds_toArray, List.set_cons_zero, List.set_cons_succ]) | (apply hX_call; (· rfl); (· rfl); (· intro w hS; go_simp; exact ⟨rfl, rfl⟩); (· intro w hS; fail); simp only [Act.put, List.setIfInBounds_toArray, List.set_cons_zero, List.set_cons_succ]) | (apply hX_if; (· rfl); (· rfl); (· rfl); (· intro hif w hS; go_simp; with_reducible rfl); simp only [Act.put, List.setIfInBounds_toArray, List.set_cons_zero, List.set_cons_succ]) | (apply hX_ifcall; (· rfl); (· rfl); (· rfl); (· intro hif w hS; go_simp; exact ⟨rfl, rfl⟩); (· intro hif w hS; fail); simp only [Act.put, List.setIfInBounds_toArray, List.set_cons_zero, List.set_cons_succ]))); refine hX_nil ?_
      refine hK _ ?_
      clear hK K
      have hXW := Ext.refl w4
      refine wpX_want (i := 5) (by kernel_rfl) rfl (by simp [Region.wanted, yielded]) ?_; intro w' hx K hK; go_simp
      refine (HJ.out w' (hX4.trans hx)).mono ?_
      rintro e w5 ⟨r5, rfl, hO5, hb5⟩
      have hE5 : Ext w4 w5 := hx.trans ⟨hb5⟩
      have hI5 := hO5.ints
      refine hK _ _ hE5 ?_
      clear hK K hx hb5 hO5
      refine wpX_want (i := 6) (by kernel_rfl) rfl (by simp [Region.wanted, yielded]) ?_; intro w' hx K hK; go_simp
      have hS := vdSame13_any d d (.slice A2 d.rs.length c2) r5 w' (hI4.ext (hE5.trans hx)) (hI5.ext hx)
      rw [sameVd_self] at hS
      unfold vdV at hS
      refine hS.mono ?_
      rintro e w6 ⟨rfl, hb6⟩
      have hE6 : Ext w4 w6 := (hE5.trans hx).call hb6
      refine hK _ _ hE6 ?_
      clear hK K hx hb6 hE5
      refine wpX_want (i := 7) (by kernel_rfl) rfl (by simp [Region.wanted, yielded]) ?_; intro w' hx K hK; go_simp
      have hE7 := hE6.trans hx
      refine hK _ _ hE7 ?_
      clear hK K hx hE6
      refine wpX_want (i := 8) (by kernel_rfl) rfl (by simp [Region.wanted, yielded]) ?_; intro w' hx K hK; go_simp
      have hE8 := hE7.trans hx
      refine hK _ _ hE8 ?_
      clear hK K hx hE7
      refine wpX_want (i := 9) (by kernel_rfl) rfl (by simp [Region.wanted, yielded]) ?_; intro w' hx K hK; go_simp
      have hE9 := hE8.trans hx
      refine (HK.out _ (hX4.trans hE9)).mono ?_
      rintro e w7 ⟨rfl, hb7⟩
      have hE10 := hE9.call hb7
      refine hK _ _ hE10 ?_
      clear hK K hx hE8 hE9 hb7
      refine wpX_want (i := 10) (by kernel_rfl) rfl (by simp [Region.wanted, yielded]) ?_; intro w' hx K hK; go_simp
      have hE11 := hE10.trans hx
      refine hK _ _ hE11 ?_
      clear hK K hx hE10
      refine wpX_want (i := 11) (by kernel_rfl) rfl (by simp [Region.wanted, yielded]) ?_; intro w' hx K hK; go_simp
      have hE12 := hE11.trans hx
      refine hK _ _ hE12 ?_
      clear hK K hx hE11
      refine wpX_done (by kernel_rfl) (fun w8 hx8 => ?_) _
      go_wp2_with (fail)
      go_ret
      exact ⟨rfl, hL.trans ((hX4.trans (hE12.trans hx8)).below.mono hL.size)⟩
end Go.Proofs.YtknfdjnbndfboaaGreatDoor
