/- TimerDrop. -/
import Derived.Test.YtenamokjbbiecaaProg
import Derived.Test.YtenamokjbbiecaaBase
import Derived.Test.YtenamokjbbiecaaHeldX
import Derived.Test.YtenamokjbbiecaaApp
import Derived.Test.YtenamokjbbiecaaExt0
import Derived.Test.YtenamokjbbiecaaChg
import Derived.Test.YtenamokjbbiecaaMapR
import Derived.Test.YtenamokjbbiecaaMapF
import Derived.Test.YtenamokjbbiecaaTimP
import Derived.Test.YtenamokjbbiecaaTim
import Derived.Test.YtenamokjbbiecaaTimT
import Derived.Test.YtenamokjbbiecaaTskI
import Derived.Test.YtenamokjbbiecaaLaw22k
import Derived.Deep.Cut
import Derived.Lib.Hide
import Derived.OwnWalk
namespace Go.Proofs.Ytenamokjbbiecaa
open Go.RowKit
attribute [local go_sem] setCell_twice ByteArray.toList_eq str_list Ext.alloc Ext.drew
set_option linter.unusedSimpArgs false
set_option maxRecDepth 100000
set_option maxHeartbeats 6400000
attribute [local irreducible] Calls

def g7 (o : Option Int) : Int → Option Int := fun x => if x = 7 then o else none
theorem g7_none : (fun _ => none : Int → Option Int) = g7 none := by funext x; unfold g7; split <;> rfl
theorem g7_at (o : Option Int) : g7 o 7 = o := rfl
theorem g7_addB {a : Int} (h : 0 ≤ a ∧ a ≤ 50) : addB (g7 none) 7 a = true := by
  unfold addB
  rw [g7_at, decide_eq_true h.1, decide_eq_true (by omega)]
  rfl
theorem g7_addF {a : Int} (h : 0 ≤ a ∧ a ≤ 50) : addF (g7 none) 7 a = g7 (some a) := by
  unfold addF
  rw [if_pos (g7_addB h)]
  funext x
  unfold upd g7
  split <;> rfl
theorem g7_tick (n : Int) : tickF (g7 (some n)) = g7 (if n = 0 then none else some (n - 1)) := by
  funext x
  unfold tickF g7
  by_cases h : x = 7
  · simp only [h, if_true]
  · simp only [if_neg h]
theorem g7_upd (o : Option Int) : upd (g7 o) 7 none = g7 none := by
  funext x
  unfold upd g7
  split <;> rfl
theorem g7_some {o : Option Int} {x m : Int} (h : g7 o x = some m) : x = 7 ∧ o = some m := by
  unfold g7 at h
  split at h
  · rename_i e; exact ⟨e, h⟩
  · cases h
theorem g7_due {n : Int} (hn : n ≠ 0) {ids : List Int} (h : Due (g7 (some n)) ids) : ids = [] :=
  h.nil fun x e => by have := (g7_some e).2; injection this with this; exact hn this
theorem g7_due0 {ids : List Int} (h : Due (g7 (some 0)) ids) : ids = [7] :=
  h.one fun x => ⟨fun e => (g7_some e).1, fun e => by rw [e]; rfl⟩
theorem timerDrop_walk (after gone anew : Int) (w : World) (h1 : (Lit.int .i64 after).wf = true) (_h2 : (Lit.int .i64 gone).wf = true) (h3 : (Lit.int .i64 anew).wf = true) :
    Calls Try.prog 7 #[.int .i64 after, .int .i64 gone, .int .i64 anew] w fun e w' => e = .returned (.bool true) ∧ Below w.heap.size w w' := by
  have hin : (decide (after < 1) || decide (50 < after) || decide (gone < 0) || decide (gone ≥ after) || decide (anew < 0) || decide (50 < anew)) = true ∨ (1 ≤ after ∧ after ≤ 50 ∧ 0 ≤ gone ∧ gone < after ∧ 0 ≤ anew ∧ anew ≤ 50) := by
    simp only [Bool.or_eq_true, decide_eq_true_eq]
    omega
  have HIN := Lib.hid hin
  clear hin
  have H3 := Lib.hid h3
  have HA := Lib.hid h1
  clear h1 h3
  go_enter Try.func7, Try.ntmps7
  go_upto_region 1 with (fail)
  refine wp_region_all' (S := Ext w) (Ext.refl w) (fun K hK => ?_); (repeat (first | (apply hO_and; (· rfl); (· rfl); (· rfl); (· rfl); simp only [Act.put, List.setIfInBounds_toArray, List.set_cons_zero, List.set_cons_succ]) | (apply hO_or; (· rfl); (· rfl); (· rfl); (· rfl); simp only [Act.put, List.setIfInBounds_toArray, List.set_cons_zero, List.set_cons_succ]) | (apply hO_off; (· rfl); (· rfl); simp only [Act.put, List.setIfInBounds_toArray, List.set_cons_zero, List.set_cons_succ]) | (apply hO_val; (· intro w hS; go_simp; with_reducible rfl); (· rfl); simp only [Act.put, List.setIfInBounds_toArray, List.set_cons_zero, List.set_cons_succ]) | (apply hO_call; (· rfl); (· intro w hS; go_simp; exact ⟨rfl, rfl⟩); (· intro w hS; fail); simp only [Act.put, List.setIfInBounds_toArray, List.set_cons_zero, List.set_cons_succ]) | (apply hO_if; (· rfl); (· rfl); (· intro hif w hS; go_simp; with_reducible rfl); simp only [Act.put, List.setIfInBounds_toArray, List.set_cons_zero, List.set_cons_succ]) | (apply hO_ifcall; (· rfl); (· rfl); (· intro hif w hS; go_simp; exact ⟨rfl, rfl⟩); (· intro hif w hS; fail); simp only [Act.put, List.setIfInBounds_toArray, List.set_cons_zero, List.set_cons_succ]))); refine hO_nil ?_; refine hK _ ?_; clear hK K
  intro w1 hX1
  rcases HIN.out with hb | ⟨i1, i2, i3, i4, i5, i6⟩
  · rw [hb]
    go_wp2_with (fail)
    go_ret
    exact ⟨rfl, hX1.below⟩
  · have hb : (decide (after < 1) || decide (50 < after) || decide (gone < 0) || decide (gone ≥ after) || decide (anew < 0) || decide (50 < anew)) = false := by
      simp only [Bool.or_eq_false_iff, decide_eq_false_iff_not]
      omega
    rw [hb]
    have HB := Lib.hid hb
    clear hb
    go_wp2_with (fail)
    refine (new_any w1).mono ?_
    rintro e w2 ⟨tb, bm, rfl, hT, ht, hm, hX⟩
    rw [g7_none] at hT
    have hX2 := hX1.trans hX
    have hm2 : w.heap.size ≤ bm := Nat.le_trans hX1.size hm
    clear hX hX1 ht hm
    go_wp2_with (fail)
    refine (add_any tb bm 0 _ 7 after w2 hT (by decide) rfl HA.out).mono ?_
    rintro e w3 ⟨rfl, hT3, hg3⟩
    have hX3 := hX2.grown hg3 (fun k e => by cases e; exact hm2)
    rw [g7_addB ⟨by omega, by omega⟩]
    rw [g7_addF ⟨by omega, by omega⟩] at hT3
    go_wp2_with (fail)
    go_loopw [8] (fun i wr => ∃ k : Int, 0 ≤ k ∧ k ≤ gone ∧ i = .int .i64 k ∧ TmAt wr tb bm 1 (g7 (some (after - k))) ∧ Ext w wr) (fun i _ => (gone - intOf i).toNat)
    case atStart => exact ⟨0, by decide, i3, rfl, by rw [Int.sub_zero]; exact hT3, hX3⟩
    case round =>
      obtain ⟨k, k0, k1, rfl, hTk, hXk⟩ := hrel
      by_cases hlt : k < gone
      · go_wp2_with (fail)
        refine (tick_any tb bm 1 _ wr hTk (by decide) (fun x m h => by have := (g7_some h).2; injection this with this; omega)).mono ?_
        rintro e w4 ⟨v4, ids4, rfl, hD4, hR4, hT4, hg4⟩
        have hX4 := hXk.grown hg4 (fun k e => by cases e; exact hm2)
        obtain rfl := g7_due (by omega) hD4
        obtain ⟨A4, c4, rfl⟩ := OwnL.slice2 hR4
        rw [g7_tick, if_neg (by omega)] at hT4
        have hwr : IntKind.i64.wrap (k + 1) = k + 1 := by rw [IntKind.wrap_i64]; omega
        clear hR4 hTk
        go_wp2_with (fail)
        exact ⟨⟨k + 1, by omega, by omega, rfl, by rw [show after - (k + 1) = after - k - 1 by omega]; exact hT4, hX4⟩, by simp [intOf]; omega⟩
      · obtain rfl : k = gone := by omega
        go_wp2_with (fail)
        refine (left_any tb bm 1 _ 7 wr hTk rfl).mono ?_
        rintro e w4 ⟨rfl, rfl⟩
        rw [g7_at]
        simp only [Option.getD_some, Option.isSome_some]
        have hwr : IntKind.i64.wrap (after - k) = after - k := by rw [IntKind.wrap_i64]; omega
        go_wp2_with (fail)
        refine (drop_any tb bm 1 _ 7 wr hTk rfl).mono ?_
        rintro e w5 ⟨rfl, hT5, hg5⟩
        have hX5 := hXk.grown hg5 (fun k e => by cases e; exact hm2)
        rw [g7_upd] at hT5
        rw [g7_at]
        simp only [Option.isSome_some]
        go_wp2_with (fail)
        refine (drop_any tb bm 1 _ 7 w5 hT5 rfl).mono ?_
        rintro e w6 ⟨rfl, hT6, hg6⟩
        have hX6 := hX5.grown hg6 (fun k e => by cases e; exact hm2)
        rw [g7_upd] at hT6
        rw [g7_at]
        simp only [Option.isSome_none]
        go_wp2_with (fail)
        refine (add_any tb bm 1 _ 7 anew w6 hT6 (by decide) rfl H3.out).mono ?_
        rintro e w7 ⟨rfl, hT7, hg7⟩
        have hX7 := hX6.grown hg7 (fun k e => by cases e; exact hm2)
        rw [g7_addB ⟨by omega, by omega⟩]
        rw [g7_addF ⟨by omega, by omega⟩] at hT7
        go_wp2_with (fail)
        go_loopw [11] (fun i wr => ∃ k : Int, 0 ≤ k ∧ k ≤ anew ∧ i = .int .i64 k ∧ TmAt wr tb bm 2 (g7 (some (anew - k))) ∧ Ext w wr) (fun i _ => (anew - intOf i).toNat)
        case atStart => exact ⟨0, by decide, i5, rfl, by rw [Int.sub_zero]; exact hT7, hX7⟩
        case round =>
          obtain ⟨q, q0, q1, rfl, hTk, hXk⟩ := hrel
          by_cases hlt : q < anew
          · go_wp2_with (fail)
            refine (tick_any tb bm 2 _ wr hTk (by decide) (fun x m h => by have := (g7_some h).2; injection this with this; omega)).mono ?_
            rintro e w4 ⟨v4, ids4, rfl, hD4, hR4, hT4, hg4⟩
            have hX4 := hXk.grown hg4 (fun k e => by cases e; exact hm2)
            obtain rfl := g7_due (by omega) hD4
            obtain ⟨A4, c4, rfl⟩ := OwnL.slice2 hR4
            rw [g7_tick, if_neg (by omega)] at hT4
            have hwr : IntKind.i64.wrap (q + 1) = q + 1 := by rw [IntKind.wrap_i64]; omega
            clear hR4 hTk
            go_wp2_with (fail)
            exact ⟨⟨q + 1, by omega, by omega, rfl, by rw [show anew - (q + 1) = anew - q - 1 by omega]; exact hT4, hX4⟩, by simp [intOf]; omega⟩
          · obtain rfl : q = anew := by omega
            rw [Int.sub_self] at hTk
            go_wp2_with (fail)
            refine (tick_any tb bm 2 _ wr hTk (by decide) (fun x m h => by have := (g7_some h).2; injection this with this; omega)).mono ?_
            rintro e w8 ⟨v8, ids8, rfl, hD8, hR8, hT8, hg8⟩
            have hX8 := hXk.grown hg8 (fun k e => by cases e; exact hm2)
            obtain rfl := g7_due0 hD8
            obtain ⟨A8, c8, rfl⟩ := OwnL.slice2 hR8
            clear hR8 hTk
            go_wp2_with (fail)
            refine (known22_any w8).mono ?_
            rintro e w9 ⟨rfl, hb9⟩
            go_wp2_with (fail)
            go_ret
            exact ⟨rfl, (hX8.call hb9).below⟩
end Go.Proofs.Ytenamokjbbiecaa
