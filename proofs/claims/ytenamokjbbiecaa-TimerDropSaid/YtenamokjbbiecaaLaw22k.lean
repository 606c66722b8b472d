/- Timers: known; a nil one. -/
import Derived.Test.YtenamokjbbiecaaProg
import Derived.Test.YtenamokjbbiecaaBase
import Derived.Test.YtenamokjbbiecaaHeldX
import Derived.Test.YtenamokjbbiecaaApp
import Derived.Test.YtenamokjbbiecaaExt0
import Derived.Test.YtenamokjbbiecaaChg
import Derived.Test.YtenamokjbbiecaaMapR
import Derived.Test.YtenamokjbbiecaaMapF
import Derived.Test.YtenamokjbbiecaaTimP
import Derived.Test.YtenamokjbbiecaaTim
import Derived.Test.YtenamokjbbiecaaTimT
import Derived.Test.YtenamokjbbiecaaTskI
import Derived.Deep.Cut
import Derived.Lib.Hide
import Derived.OwnWalk
namespace Go.Proofs.Ytenamokjbbiecaa
open Go.RowKit
attribute [local go_sem] setCell_twice ByteArray.toList_eq str_list Ext.alloc Ext.drew
set_option linter.unusedSimpArgs false
set_option maxRecDepth 100000
set_option maxHeartbeats 6400000
attribute [local irreducible] Calls

theorem Due.nil {f : Int → Option Int} {ids : List Int} (h : Due f ids) (hn : ∀ x, f x ≠ some 0) : ids = [] := by
  refine List.eq_nil_iff_forall_not_mem.2 fun x hx => hn x ((h.2 x).1 hx)
theorem Due.one {f : Int → Option Int} {ids : List Int} (h : Due f ids) {a : Int} (hn : ∀ x, f x = some 0 ↔ x = a) : ids = [a] :=
  sorted_ext h.1 (List.pairwise_singleton _ _) fun x => by rw [h.2, hn, List.mem_singleton]
theorem left_nil (id : Int) (w : World) : Calls Try.prog 26 #[.pointer none, .int .i64 id] w fun e w' => e = .returned (.tuple #[.int .i64 0, .bool false]) ∧ w = w' := by
  go_enter Try.func26, Try.ntmps26
  go_wp2_with (fail)
  exact bodyPost_ret (v := .tuple #[.int .i64 0, .bool false]) (by simp [results, Try.results26, go_sem, *]) rfl ⟨rfl, rfl⟩
theorem add_nil (id after : Int) (w : World) : Calls Try.prog 19 #[.pointer none, .int .i64 id, .int .i64 after] w fun e w' => e = .returned (.bool false) ∧ w = w' := by
  go_enter Try.func19, Try.ntmps19
  go_wp2_with (fail)
  go_ret
  exact ⟨rfl, rfl⟩
theorem drop_nil (id : Int) (w : World) : Calls Try.prog 21 #[.pointer none, .int .i64 id] w fun e w' => e = .returned (.bool false) ∧ w = w' := by
  go_enter Try.func21, Try.ntmps21
  go_wp2_with (fail)
  refine (left_nil id w).mono ?_
  rintro e w1 ⟨rfl, rfl⟩
  go_wp2_with (fail)
  go_ret
  exact ⟨rfl, rfl⟩
theorem tick_nil (w : World) : Calls Try.prog 24 #[.pointer none] w fun e w' => e = .returned (.slice none 0 0) ∧ w = w' := by
  go_enter Try.func24, Try.ntmps24
  go_wp2_with (fail)
  go_ret
  exact ⟨rfl, rfl⟩
theorem ints_one (w : World) (x : Int) (t : TypeId) : Ints (w.alloc (.cells #[.int .i64 x] t)) (.slice (some ⟨w.heap.size, 0, none⟩) 1 1) [x] := by
  refine ⟨_, 1, rfl, Nat.le_refl _, by unfold maxLen; decide, fun _ => ⟨w.heap.size, 0, rfl, fun i hi => ?_⟩⟩
  obtain rfl : i = 0 := by simpa using hi
  rw [(Blk.new w _ t).cell]
  rfl
theorem known22_any (w : World) : Calls Try.prog 28 #[] w fun e w' => e = .returned (.bool true) ∧ Below w.heap.size w w' := by
  go_enter Try.func28, Try.ntmps28
  go_wp2_with (fail)
  refine (new_any w).mono ?_
  rintro e w1 ⟨tb, bm, rfl, hT, ht, hm, hX⟩
  go_wp2_with (fail)
  refine (add_any tb bm 0 _ 3 1 w1 hT (by decide) rfl rfl).mono ?_
  rintro e w2 ⟨rfl, hT2, hg2⟩
  have e2 : addB (fun _ => none) 3 1 = true := rfl
  rw [e2]
  have hX2 := hX.grown hg2 (fun k e => by cases e; exact hm)
  generalize hf1 : addF (fun _ => none) 3 1 = f1 at hT2
  have hf1x : ∀ x, f1 x = if x = 3 then some 1 else none := fun x => by rw [← hf1]; rfl
  have H1 := Lib.hid hf1x
  clear hf1 hf1x e2
  go_wp2_with (fail)
  refine (add_any tb bm 1 f1 3 2 w2 hT2 (by decide) rfl rfl).mono ?_
  rintro e w3 ⟨rfl, hT3, hg3⟩
  have e3 : addB f1 3 2 = false := by unfold addB; rw [H1.out]; rfl
  have e4 : addF f1 3 2 = f1 := by unfold addF; rw [e3]; rfl
  rw [e3]
  rw [e4] at hT3
  have hX3 := hX2.grown hg3 (fun k e => by cases e; exact hm)
  clear e3 e4
  go_wp2_with (fail)
  refine (tick_any tb bm 2 f1 w3 hT3 (by decide) (fun x m h => by rw [H1.out] at h; split at h; (· cases h; decide); (· cases h))).mono ?_
  rintro e w4 ⟨v4, ids4, rfl, hD4, hR4, hT4, hg4⟩
  have hX4 := hX3.grown hg4 (fun k e => by cases e; exact hm)
  obtain rfl := hD4.nil (fun x h => by rw [H1.out] at h; split at h <;> cases h)
  obtain ⟨A4, c4, rfl⟩ := OwnL.slice2 hR4
  have H2 : ∀ x, tickF f1 x = if x = 3 then some 0 else none := fun x => by
    unfold tickF
    rw [H1.out]
    by_cases h : x = 3
    · simp [h]
    · simp [h]
  generalize tickF f1 = f2 at hT4 H2
  have H2 := Lib.hid H2
  clear hR4
  go_wp2_with (fail)
  refine (tick_any tb bm 2 f2 w4 hT4 (by decide) (fun x m h => by rw [H2.out] at h; split at h; (· cases h; decide); (· cases h))).mono ?_
  rintro e w5 ⟨v5, ids5, rfl, hD5, hR5, hT5, hg5⟩
  have hX5 := hX4.grown hg5 (fun k e => by cases e; exact hm)
  obtain rfl := hD5.one (a := 3) (fun x => by rw [H2.out]; by_cases h : x = 3 <;> simp [h])
  have hI5 := hR5.ints
  have H3 : ∀ x, tickF f2 x = none := fun x => by
    unfold tickF
    rw [H2.out]
    by_cases h : x = 3
    · simp [h]
    · simp [h]
  generalize tickF f2 = f3 at hT5 H3
  have H3 := Lib.hid H3
  clear hR5
  have hI50 := hI5
  obtain ⟨A5, c5, e5, -⟩ := hI50
  subst e5
  go_wp2_with (fail)
  refine (ints2_any _ _ [3] [3] _ (hI5.alloc _) (ints_one w5 3 3)).mono ?_
  rintro e w6 ⟨rfl, hb6⟩
  have hA6 := (Ext.refl w5).alloc (.cells #[.int .i64 3] 3)
  have hX6 := (hX5.trans hA6).call hb6
  have hT6 := (hT5.ext hA6).ext ⟨hb6⟩
  clear hI5 hb6
  rw [decide_eq_true rfl]
  go_wp2_with (fail)
  refine (tick_any tb bm 2 f3 w6 hT6 (by decide) (fun x m h => by rw [H3.out] at h; cases h)).mono ?_
  rintro e w7 ⟨v7, ids7, rfl, hD7, hR7, hT7, hg7⟩
  have hX7 := hX6.grown hg7 (fun k e => by cases e; exact hm)
  obtain rfl := hD7.nil (fun x h => by rw [H3.out] at h; cases h)
  obtain ⟨A7, c7, rfl⟩ := OwnL.slice2 hR7
  clear hR7
  go_wp2_with (fail)
  go_ret
  exact ⟨rfl, hX7.below⟩
end Go.Proofs.Ytenamokjbbiecaa
