import Derived.Test.YtakiicbcephbhaaDoorProg
import Derived.Test.YtakiicbcephbhaaDoorBase
import Derived.Test.YtakiicbcephbhaaDoorBase2
import Derived.Test.YtakiicbcephbhaaDoorHeld
import Derived.Test.YtakiicbcephbhaaDoorHeldX
import Derived.Test.YtakiicbcephbhaaDoorLexM
import Derived.Test.YtakiicbcephbhaaDoorLex1
import Derived.Test.YtakiicbcephbhaaDoorLex3
import Derived.Test.YtakiicbcephbhaaDoorTskM
import Derived.Test.YtakiicbcephbhaaDoorTsk1
import Derived.Test.YtakiicbcephbhaaDoorTsk2
import Derived.Test.YtakiicbcephbhaaDoorTsk3
import Derived.Test.YtakiicbcephbhaaDoorTsk4
import Derived.Test.YtakiicbcephbhaaDoorTskZ
import Derived.Test.YtakiicbcephbhaaDoorTskS
import Derived.Test.YtakiicbcephbhaaDoorTskO
import Derived.Test.YtakiicbcephbhaaDoorSetO
import Derived.Test.YtakiicbcephbhaaDoorTskP
import Derived.Test.YtakiicbcephbhaaDoorLaw5a
import Derived.Deep.Cut
namespace Go.Proofs.YtakiicbcephbhaaDoor
open Go.RowKit
attribute [local go_sem] setCell_twice ByteArray.toList_eq str_list
set_option linter.unusedSimpArgs false

set_option maxHeartbeats 6400000 in
set_option maxRecDepth 100000 in
/-- TaskSame: any two sets: are they one? -/
theorem taskSame_walk (v : Value) (s : TSet) (v' : Value) (u : TSet) (w : World) (hv : ∃ x, v = setV s x ∧ Tasks w x s.tasks ∧ s.fit) (hv' : ∃ x, v' = setV u x ∧ Tasks w x u.tasks ∧ u.fit) (hG : GOK w) :
    Calls Tryd.prog 13 #[v, v'] w fun e w' => e = .returned (.bool true) ∧ Below w.heap.size w w' := by
  obtain ⟨x, rfl, hx, hf⟩ := hv
  obtain ⟨y, rfl, hy, hf'⟩ := hv'
  have l1 := hx.len
  have l2 := hy.len
  have hx0 := hx
  have hy0 := hy
  obtain ⟨A, c, rfl, _, _, _⟩ := hx0
  obtain ⟨A', c', rfl, _, _, _⟩ := hy0
  go_enter Tryd.func13, Tryd.ntmps13
  unfold setV
  go_upto_region 1 with (fail)
  have hL : Below w.heap.size w ((w.alloc (.cells #[.int .i64 s.reload, (.slice A s.tasks.length c)] 48)).alloc (.cells #[.int .i64 u.reload, (.slice A' u.tasks.length c')] 48)) := (by repeat (first | exact Below.refl _ _ | assumption | refine Below.drew ?_ | refine Below.alloc ?_ (by first | (simp; done) | (simp; omega) | omega) _ | refine Below.setCell ?_ (by first | (simp; done) | (simp; omega) | omega) _)); have hB : Blk ((w.alloc (.cells #[.int .i64 s.reload, (.slice A s.tasks.length c)] 48)).alloc (.cells #[.int .i64 u.reload, (.slice A' u.tasks.length c')] 48)) w.heap.size #[.int .i64 s.reload, (.slice A s.tasks.length c)] 48 := (Blk.new _ _ _).alloc _; have hB2 : Blk ((w.alloc (.cells #[.int .i64 s.reload, (.slice A s.tasks.length c)] 48)).alloc (.cells #[.int .i64 u.reload, (.slice A' u.tasks.length c')] 48)) (w.heap.size + 1) #[.int .i64 u.reload, (.slice A' u.tasks.length c')] 48 := Blk.new_at _ _ _ _ (by simp)
  have hr1 := hx.ext ⟨hL⟩
  have hu1 := hy.ext ⟨hL⟩
  have hG0 := hG.below hL
  generalize (w.alloc _).alloc _ = W at hL hB hB2 hr1 hu1 hG0 ⊢
  have hX := Ext.refl W
  have hc := hB.under
  have hc2 := hB2.under
  by_cases h30 : s.tasks.length ≤ 30
  · by_cases h31 : u.tasks.length ≤ 30
    · go_upto_region 3 with (fail)
      refine wp_region_mix (T := [10, 11, 12, 13, 14, 15, 16]) (S := Ext W) (Ext.mono W) (by kernel_rfl) (by kernel_rfl) hX.drew hX (fun _ _ h => h) (fun K hK => ?_)
      (repeat (first | (refine hX_skip ?_ ?_; (· rfl)) | (apply hX_and; (· rfl); (· rfl); (· rfl); (· rfl); (· rfl); simp only [Act.put, List.setIfInBounds_toArray, List.set_cons_zero, List.set_cons_succ]) | (apply hX_or; (· rfl); (· rfl); (· rfl); (· rfl); (· rfl); simp only [Act.put, List.setIfInBounds_toArray, List.set_cons_zero, List.set_cons_succ]) | (apply hX_off; (· rfl); (· rfl); (· rfl); simp only [Act.put, List.setIfInBounds_toArray, List.set_cons_zero, List.set_cons_succ]) | (apply hX_val; (· rfl); (· intro w hS; go_simp; with_reducible rfl); (· rfl); simp only [Act.put, List.setIfInBounds_toArray, List.set_cons_zero, List.set_cons_succ]) | (apply hX_call; (· rfl); (· rfl); (· intro w hS; go_simp; exact ⟨rfl, rfl⟩); (· intro w hS; first | exact callXX (sameS_any s u _ _ _ (hr1.ext hS) (hu1.ext hS)) | exact callXX (sameR_any s u _ _ _ (hr1.ext hS) (hu1.ext hS))); simp only [Act.put, List.setIfInBounds_toArray, List.set_cons_zero, List.set_cons_succ]) | (apply hX_if; (· rfl); (· rfl); (· rfl); (· intro hif w hS; go_simp; with_reducible rfl); simp only [Act.put, List.setIfInBounds_toArray, List.set_cons_zero, List.set_cons_succ]) | (apply hX_ifcall; (· rfl); (· rfl); (· rfl); (· intro hif w hS; go_simp; exact ⟨rfl, rfl⟩); (· intro hif w hS; first | exact callXX (sameS_any s u _ _ _ (hr1.ext hS) (hu1.ext hS)) | exact callXX (sameR_any s u _ _ _ (hr1.ext hS) (hu1.ext hS))); simp only [Act.put, List.setIfInBounds_toArray, List.set_cons_zero, List.set_cons_succ]))); refine hX_nil ?_
      refine hK _ ?_
      clear hK K
      have hXW := Ext.refl W
      refine wpX_want (i := 10) (by kernel_rfl) rfl (by simp [Region.wanted, yielded]) ?_; intro w' hx K hK; go_simp
      refine (put_any s _ _ (hr1.ext hx) hf).mono ?_
      rintro e w2 ⟨v2, ps, rfl, hP, hps, hb⟩
      have hE2 : Ext W w2 := hx.trans ⟨hb⟩
      have hr2 : Tasks w2 v2 s.tasks := hps ▸ hP.tasks
      refine hK _ _ hE2 ?_
      clear hK K
      refine wpX_want (i := 11) (by kernel_rfl) rfl (by simp [Region.wanted, yielded]) ?_; intro w' hx K hK; go_simp
      refine (sameS_any s s _ _ _ (hr1.ext (hE2.trans (by assumption))) (hr2.ext (by assumption))).mono ?_
      rintro e w3 ⟨rfl, hb3⟩
      have hE3 : Ext W w3 := (hE2.trans (by assumption)).trans ⟨hb3⟩
      refine hK _ _ hE3 ?_
      clear hK K
      have hd : decide (s = s) = true := decide_eq_true rfl
      refine wpX_want (i := 12) (by kernel_rfl) rfl (by simp [Region.wanted, yielded]) ?_; intro w' hx K hK; go_simp; have hN : Ext W w' := Ext.trans (by assumption) hx; refine hK _ _ hN ?_; clear hK K hx
      refine wpX_want (i := 13) (by kernel_rfl) rfl (by simp [Region.wanted, yielded]) ?_; intro w' hx K hK; go_simp; have hN : Ext W w' := Ext.trans (by assumption) hx; refine hK _ _ hN ?_; clear hK K hx
      refine wpX_want (i := 14) (by kernel_rfl) rfl (by simp [Region.wanted, yielded]) ?_; intro w' hx K hK; go_simp
      have hN : Ext W w' := Ext.trans (by assumption) hx
      refine (known5_any _ (hG0.below hN.below)).mono ?_
      rintro e w4 ⟨rfl, hb4⟩
      have hE5 : Ext W w4 := hN.trans ⟨hb4⟩
      refine hK _ _ hE5 ?_
      clear hK K hx hN
      refine wpX_want (i := 15) (by kernel_rfl) rfl (by simp [Region.wanted, yielded]) ?_; intro w' hx K hK; go_simp; have hN : Ext W w' := Ext.trans (by assumption) hx; refine hK _ _ hN ?_; clear hK K hx
      refine wpX_want (i := 16) (by kernel_rfl) rfl (by simp [Region.wanted, yielded]) ?_; intro w' hx K hK; go_simp; have hN : Ext W w' := Ext.trans (by assumption) hx; refine hK _ _ hN ?_; clear hK K hx
      refine wpX_done (by kernel_rfl) (fun w1 hx1 => ?_) _
      go_wp2_with (fail)
      go_ret
      exact ⟨rfl, hL.trans ((Ext.below (Ext.trans (by assumption) hx1)).mono hL.size)⟩
    · go_wp2_with (fail)
      go_ret
      exact ⟨rfl, hL⟩
  · go_wp2_with (fail)
    go_ret
    exact ⟨rfl, hL⟩
end Go.Proofs.YtakiicbcephbhaaDoor
