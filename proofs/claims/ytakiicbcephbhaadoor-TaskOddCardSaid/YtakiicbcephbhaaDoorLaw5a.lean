import Derived.Test.YtakiicbcephbhaaDoorProg
import Derived.Test.YtakiicbcephbhaaDoorBase
import Derived.Test.YtakiicbcephbhaaDoorBase2
import Derived.Test.YtakiicbcephbhaaDoorLexM
import Derived.Test.YtakiicbcephbhaaDoorLex1
import Derived.Test.YtakiicbcephbhaaDoorLex3
import Derived.Test.YtakiicbcephbhaaDoorTskM
import Derived.Test.YtakiicbcephbhaaDoorTsk1
import Derived.Test.YtakiicbcephbhaaDoorTsk2
import Derived.Test.YtakiicbcephbhaaDoorTsk3
import Derived.BigQuiet
import Derived.Deep.QuietTactic
import Derived.RegionCalls
import Derived.Deep.RegionWith
namespace Go.Proofs.YtakiicbcephbhaaDoor
open Go.RowKit
set_option linter.unusedSimpArgs false
attribute [local go_sem] setCell_twice ByteArray.toList_eq str_list

def plainT (s : ByteArray) : Tsk := ⟨s, 5, 5, 0, 0, 0, [2, 1], 0, 0⟩
set_option maxHeartbeats 1600000 in
set_option maxRecDepth 100000 in
theorem plain_any (s : ByteArray) (w : World) :
    Calls Tryd.prog 27 #[.string s] w fun e w' => ∃ r, e = .returned (tskV (plainT s) r) ∧ Ints w' r [2, 1] ∧ Below w.heap.size w w' := by
  go_enter Tryd.func27, Tryd.ntmps27
  go_wp2_with (fail)
  refine bodyPost_ret (v := tskV (plainT s) (.slice (some ⟨w.heap.size + 1, 0, none⟩) 2 2)) ?_ rfl ⟨_, rfl, ?_, ?_⟩
  · simp [results, Tryd.results27, go_sem, tskV, plainT]
  · refine ⟨_, 2, rfl, by simp, by unfold maxLen; simp, fun _ => ⟨w.heap.size + 1, 0, rfl, fun i hi => ?_⟩⟩
    rw [Blk.cell (Blk.new_at _ _ _ (w.heap.size + 1) (by simp))]
    have : i = 0 ∨ i = 1 := by simp at hi; omega
    rcases this with rfl | rfl <;> rfl
  · exact (by repeat (first | exact Below.refl _ _ | assumption | refine Below.drew ?_ | refine Below.alloc ?_ (by first | (simp; done) | (simp; omega) | omega) _ | refine Below.setCell ?_ (by first | (simp; done) | (simp; omega) | omega) _))
def knownT (d : Int) : Tsk := ⟨str [97], 5, d, 0, 0, 0, [2, 1], 0, 0⟩
theorem known_yes : isB (knownT 5) 0 = true := by decide +kernel
theorem known_no : isB (knownT 2) 0 = false := by decide +kernel
theorem known_work : workL [2, 1] = 3 := by decide +kernel
set_option maxHeartbeats 1600000 in
set_option maxRecDepth 100000 in
theorem known5_any (w : World) (hG : GOK w) :
    Calls Tryd.prog 24 #[] w fun e w' => e = .returned (.bool true) ∧ Below w.heap.size w w' := by
  have i5 := fun (W : World) (r : Value) (hr : Ints W r [2, 1]) (h : GOK W) => is_any (knownT 5) r 0 W hr (by unfold maxLen; decide) h
  have i2 := fun (W : World) (r : Value) (hr : Ints W r [2, 1]) (h : GOK W) => is_any (knownT 2) r 0 W hr (by unfold maxLen; decide) h
  have wk := fun (W : World) (r : Value) (hr : Ints W r [2, 1]) => work_any (knownT 5) r W hr
  rw [known_yes] at i5
  rw [known_no] at i2
  have I5 := Lib.hid i5; clear i5
  have I2 := Lib.hid i2; clear i2
  have WK := Lib.hid wk; clear wk
  have hw3 := known_work
  go_enter Tryd.func24, Tryd.ntmps24
  go_wp2_with (fail)
  refine (plain_any (str [97]) _).mono ?_
  rintro e w1 ⟨r, rfl, hr, hb⟩
  have hr0 := hr
  obtain ⟨A, c, rfl, h1, h2, h3⟩ := hr
  change Ints w1 (.slice A 2 c) [2, 1] at hr0
  clear h3
  unfold tskV plainT
  dsimp only
  have J5 := fun W hW hG => I5.out W (.slice A 2 c) hW hG
  have J2 := fun W hW hG => I2.out W (.slice A 2 c) hW hG
  have JW := fun W hW => WK.out W (.slice A 2 c) hW
  unfold tskV knownT at J5 J2 JW
  dsimp only at J5 J2 JW
  rw [hw3] at JW
  have J5 := Lib.hid J5
  have J2 := Lib.hid J2
  have JW := Lib.hid JW
  change Below w.heap.size w w1 at hb
  go_wp2_with (fail)
  refine (J5.out _ (hr0.alloc _) ((hG.below hb).below (by repeat (first | exact Below.refl _ _ | assumption | refine Below.drew ?_ | refine Below.alloc ?_ (by first | (simp; done) | (simp; omega) | omega) _ | refine Below.setCell ?_ (by first | (simp; done) | (simp; omega) | omega) _)))).mono ?_
  rintro e w2 ⟨rfl, hb2⟩
  have hB0 := ((Blk.new _ _ _)).below hb2 (by first | (simp; done) | (simp; omega) | omega); have cB0 := hB0.cell; have fB0 := hB0.free
  go_wp2_with (fail)
  refine (JW.out _ ((hr0.alloc _).below hb2)).mono ?_
  rintro e w3 ⟨rfl, hb3⟩
  have hB1 := hB0.below hb3 (by have := hb2.size; simp at this; omega)
  have cB1 := hB1.cell
  have fB1 := hB1.free
  clear hB0 cB0 fB0
  go_wp2_with (fail)
  have s2 : w1.heap.size + 1 ≤ w2.heap.size := by have := hb2.size; simpa using this
  have a1 : Below w1.heap.size w1 w2 := Below.trans ((Below.refl _ w1).alloc (Nat.le_refl _) _) (hb2.mono (by simp))
  have a2 : Below w1.heap.size w1 w3 := a1.trans (hb3.mono (by omega))
  have a3 : Below w1.heap.size w1 (w3.setCell ⟨w1.heap.size, 2, none⟩ (.int .i64 2)) := by
    refine Below.setCell a2 ?_ _
    exact Nat.le_refl _
  refine (J2.out _ (hr0.below a3) ((hG.below hb).below a3)).mono ?_
  rintro e w4 ⟨rfl, hb4⟩
  go_wp2_with (fail)
  go_ret
  exact ⟨rfl, hb.trans ((a3.trans (hb4.mono a3.size)).mono hb.size)⟩
end Go.Proofs.YtakiicbcephbhaaDoor
