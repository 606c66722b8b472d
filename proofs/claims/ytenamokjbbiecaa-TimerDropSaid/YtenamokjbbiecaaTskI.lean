/- ref2.Ints. -/
import Derived.Test.YtenamokjbbiecaaProg
import Derived.Test.YtenamokjbbiecaaBase
import Derived.Test.YtenamokjbbiecaaHeldX
import Derived.Test.YtenamokjbbiecaaExt0
import Derived.BigQuiet
import Derived.Deep.QuietTactic
import Derived.Lib.Hide
import Derived.Deep.Cut
namespace Go.Proofs.Ytenamokjbbiecaa
open Go.RowKit
attribute [local go_sem] setCell_twice ByteArray.toList_eq str_list Ext.alloc Ext.drew

set_option linter.unusedSimpArgs false
set_option maxHeartbeats 1600000 in
set_option maxRecDepth 100000 in
theorem ints2_any (v u : Value) (xs ys : List Int) (w : World) (hv : Ints w v xs) (hu : Ints w u ys) :
    Calls Try.prog 23 #[v, u] w fun e w' => e = .returned (.bool (decide (xs = ys))) ∧ Below w.heap.size w w' := by
  obtain ⟨A, c, rfl, h1, h2, h3⟩ := hv
  obtain ⟨A', c', rfl, k1, k2, k3⟩ := hu
  unfold maxLen at h2 k2
  by_cases hl : xs.length = ys.length
  · have HL := Lib.hid hl
    have hb : ((xs.length : Int) != (ys.length : Int)) = false := by simp [hl]
    clear hl
    go_enter Try.func23, Try.ntmps23
    go_wp2_with (fail)
    go_loopw [5] (fun i wr => ∃ k : Nat, k ≤ xs.length ∧ i = .int .i64 k ∧ Hid (xs.take k = ys.take k) ∧ Ext w wr) (fun i _ => xs.length - (intOf i).toNat)
    case atStart => exact ⟨0, Nat.zero_le _, rfl, Lib.hid rfl, Ext.refl _⟩
    case round =>
      obtain ⟨k, hk, rfl, ht, hX⟩ := hrel
      by_cases hlt : k < xs.length
      · have hlt' : k < ys.length := by rw [← HL.out]; exact hlt
        obtain ⟨b, o, rfl, hx⟩ := h3 (by intro e; rw [e] at hlt; simp at hlt)
        obtain ⟨b', o', rfl, hy⟩ := k3 (by intro e; rw [e] at hlt'; simp at hlt')
        have hc := fun W (h : Ext w W) => h.cell (hx k hlt)
        have hd := fun W (h : Ext w W) => h.cell (hy k hlt')
        clear hx hy h3 k3
        have he := fun e => take_eq_step hlt hlt' ht.out e
        have hne : xs[k] ≠ ys[k] → xs ≠ ys := fun h e => h (by subst e; rfl)
        generalize xs[k] = x at hc he hne
        generalize ys[k] = y at hd he hne
        have HE := Lib.hid he; clear he
        have HN := Lib.hid hne; clear hne
        go_wp2_with (fail)
        refine wp_region_all (S := Ext w) (by kernel_rfl) (by kernel_rfl) hX.drew (fun K hK => ?_); (repeat (first | (apply hO_and; (· rfl); (· rfl); (· rfl); (· rfl); simp only [Act.put, List.setIfInBounds_toArray, List.set_cons_zero, List.set_cons_succ]) | (apply hO_or; (· rfl); (· rfl); (· rfl); (· rfl); simp only [Act.put, List.setIfInBounds_toArray, List.set_cons_zero, List.set_cons_succ]) | (apply hO_off; (· rfl); (· rfl); simp only [Act.put, List.setIfInBounds_toArray, List.set_cons_zero, List.set_cons_succ]) | (apply hO_val; (· intro w hS; go_simp; with_reducible rfl); (· rfl); simp only [Act.put, List.setIfInBounds_toArray, List.set_cons_zero, List.set_cons_succ]) | (apply hO_call; (· rfl); (· intro w hS; go_simp; exact ⟨rfl, rfl⟩); (· intro w hS; fail); simp only [Act.put, List.setIfInBounds_toArray, List.set_cons_zero, List.set_cons_succ]) | (apply hO_if; (· rfl); (· rfl); (· intro hif w hS; go_simp; with_reducible rfl); simp only [Act.put, List.setIfInBounds_toArray, List.set_cons_zero, List.set_cons_succ]) | (apply hO_ifcall; (· rfl); (· rfl); (· intro hif w hS; go_simp; exact ⟨rfl, rfl⟩); (· intro hif w hS; fail); simp only [Act.put, List.setIfInBounds_toArray, List.set_cons_zero, List.set_cons_succ]))); refine hO_nil ?_; refine hK _ ?_; clear hK K
        intro w1 hX1
        by_cases e : x = y
        · have hb : (x != y) = false := by simpa using e
          have ht2 := HE.out e
          clear e
          have HT2 := Lib.hid ht2; clear ht2
          go_wp2_with (fail)
          exact ⟨⟨k + 1, hlt, rfl, HT2, hX1⟩, by simp [intOf]; omega⟩
        · have hb : (x != y) = true := by simpa using e
          have hn := Lib.hid (HN.out e)
          clear e
          go_wp2_with (fail)
          go_ret
          exact ⟨by rw [decide_eq_false hn.out]; rfl, hX1.below⟩
      · obtain rfl : k = xs.length := by omega
        go_wp2_with (fail)
        go_ret
        exact ⟨by rw [decide_eq_true (take_eq_end HL.out ht.out)]; rfl, hX.below⟩
  · have hb : ((xs.length : Int) != (ys.length : Int)) = true := by simp; omega
    have hn : xs ≠ ys := fun e => hl (by rw [e])
    have HN := Lib.hid hn; clear hn hl
    go_enter Try.func23, Try.ntmps23
    go_wp2_with (fail)
    go_ret
    exact ⟨by rw [decide_eq_false HN.out]; rfl, Below.refl _ _⟩


end Go.Proofs.Ytenamokjbbiecaa
