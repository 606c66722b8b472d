import Derived.Test.YtakiicbcephbhaaDoorProg
import Derived.Test.YtakiicbcephbhaaDoorBase
import Derived.Test.YtakiicbcephbhaaDoorBase2
import Derived.Test.YtakiicbcephbhaaDoorHeld
import Derived.Test.YtakiicbcephbhaaDoorHeldX
import Derived.Test.YtakiicbcephbhaaDoorLexM
import Derived.Test.YtakiicbcephbhaaDoorLex1
import Derived.Test.YtakiicbcephbhaaDoorLex3
import Derived.Test.YtakiicbcephbhaaDoorTskM
import Derived.Test.YtakiicbcephbhaaDoorTsk1
import Derived.Test.YtakiicbcephbhaaDoorTsk2
import Derived.Test.YtakiicbcephbhaaDoorTsk3
import Derived.Test.YtakiicbcephbhaaDoorTsk4
import Derived.Test.YtakiicbcephbhaaDoorTskZ
import Derived.Test.YtakiicbcephbhaaDoorTskA
import Derived.Test.YtakiicbcephbhaaDoorTskO
import Derived.Test.YtakiicbcephbhaaDoorSetO
import Derived.Test.YtakiicbcephbhaaDoorLaw5a
import Derived.Deep.Cut
namespace Go.Proofs.YtakiicbcephbhaaDoor
open Go.RowKit
attribute [local go_sem] setCell_twice ByteArray.toList_eq str_list
set_option linter.unusedSimpArgs false

/-- TaskAll: any set: may it be? -/
theorem taskAll_walk (v : Value) (s : TSet) (w : World) (hv : ∃ u, v = setV s u ∧ Tasks w u s.tasks ∧ s.fit) (hG : GOK w) :
    Calls Tryd.prog 11 #[v] w fun e w' => e = .returned (.bool true) ∧ Below w.heap.size w w' := by
  obtain ⟨u, rfl, hu, hf⟩ := hv
  have hg := hf.good
  have l1 := hu.len
  have hu0 := hu
  obtain ⟨A, c, rfl, _, _, _⟩ := hu0
  go_enter Tryd.func11, Tryd.ntmps11
  unfold setV
  go_upto_region 1 with (fail)
  have hL : Below w.heap.size w (w.alloc (.cells #[.int .i64 s.reload, (.slice A s.tasks.length c)] 48)) := (by repeat (first | exact Below.refl _ _ | assumption | refine Below.drew ?_ | refine Below.alloc ?_ (by first | (simp; done) | (simp; omega) | omega) _ | refine Below.setCell ?_ (by first | (simp; done) | (simp; omega) | omega) _)); have hB : Blk (w.alloc (.cells #[.int .i64 s.reload, (.slice A s.tasks.length c)] 48)) w.heap.size #[.int .i64 s.reload, (.slice A s.tasks.length c)] 48 := Blk.new _ _ _
  have hr := hu.ext ⟨hL⟩
  have hG0 := hG.below hL
  generalize w.alloc _ = W at hL hB hr hG0 ⊢
  have hX := Ext.refl W
  have hc := hB.under
  by_cases h30 : s.tasks.length ≤ 30
  · go_upto_region 3 with (fail)
    refine wp_region_all (S := Ext W) (by kernel_rfl) (by kernel_rfl) hX.drew (fun K hK => ?_); (repeat (first | (apply hO_and; (· rfl); (· rfl); (· rfl); (· rfl); simp only [Act.put, List.setIfInBounds_toArray, List.set_cons_zero, List.set_cons_succ]) | (apply hO_or; (· rfl); (· rfl); (· rfl); (· rfl); simp only [Act.put, List.setIfInBounds_toArray, List.set_cons_zero, List.set_cons_succ]) | (apply hO_off; (· rfl); (· rfl); simp only [Act.put, List.setIfInBounds_toArray, List.set_cons_zero, List.set_cons_succ]) | (apply hO_val; (· intro w hS; go_simp; with_reducible rfl); (· rfl); simp only [Act.put, List.setIfInBounds_toArray, List.set_cons_zero, List.set_cons_succ]) | (apply hO_call; (· rfl); (· intro w hS; go_simp; exact ⟨rfl, rfl⟩); (· intro w hS; first | exact callX hS (all_any s _ _ (hr.ext hS) hg (hG0.below hS.below)) | exact callX hS (allR_any s _ _ (hr.ext hS) hg) | exact callX hS (known5_any _ (hG0.below hS.below))); simp only [Act.put, List.setIfInBounds_toArray, List.set_cons_zero, List.set_cons_succ]) | (apply hO_if; (· rfl); (· rfl); (· intro hif w hS; go_simp; with_reducible rfl); simp only [Act.put, List.setIfInBounds_toArray, List.set_cons_zero, List.set_cons_succ]) | (apply hO_ifcall; (· rfl); (· rfl); (· intro hif w hS; go_simp; exact ⟨rfl, rfl⟩); (· intro hif w hS; first | exact callX hS (all_any s _ _ (hr.ext hS) hg (hG0.below hS.below)) | exact callX hS (allR_any s _ _ (hr.ext hS) hg) | exact callX hS (known5_any _ (hG0.below hS.below))); simp only [Act.put, List.setIfInBounds_toArray, List.set_cons_zero, List.set_cons_succ]))); refine hO_nil ?_; refine hK _ ?_; clear hK K
    intro w1 hX1
    go_wp2_with (fail)
    go_ret
    exact ⟨rb (by simp), hL.trans (hX1.below.mono hL.size)⟩
  · go_wp2_with (fail)
    go_ret
    exact ⟨rfl, hL⟩
end Go.Proofs.YtakiicbcephbhaaDoor
