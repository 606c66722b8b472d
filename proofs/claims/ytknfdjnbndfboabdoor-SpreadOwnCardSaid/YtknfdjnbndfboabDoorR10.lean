/- The document's loads (ref10): may, sum, Least; resp.done. -/
import Derived.Test.YtknfdjnbndfboabDoorProg
import Derived.Test.YtknfdjnbndfboabDoorBase
import Derived.Test.YtknfdjnbndfboabDoorHeldX
import Derived.Test.YtknfdjnbndfboabDoorTsk1
import Derived.Test.YtknfdjnbndfboabDoorTsk3
import Derived.Test.YtknfdjnbndfboabDoorNumP
import Derived.Test.YtknfdjnbndfboabDoorNum
import Derived.Test.YtknfdjnbndfboabDoorLoadW
import Derived.Test.YtknfdjnbndfboabDoorFix
import Derived.Deep.Cut
import Derived.Lib.Hide
import Derived.BigQuiet
namespace Go.Proofs.YtknfdjnbndfboabDoor
open Go.RowKit
attribute [local go_sem] setCell_twice Ext.alloc Ext.drew
set_option linter.unusedSimpArgs false
set_option maxRecDepth 100000
set_option maxHeartbeats 6400000
attribute [local irreducible] topB

theorem done_any (base : Int) (l : List Ld) (n : Int) (v : Value) (w : World) (hv : Loads w v l) (hok : OkL base l) :
    Calls Tryd.prog 44 #[.int .i64 base, v, .int .i64 n] w fun e w' => e = .returned (.int .i64 (doneW base l n)) ∧ Below w.heap.size w w' := by
  go_enter Tryd.func44, Tryd.ntmps44
  go_wp2_with (fail)
  go_loopw [2] (fun i wr => ∃ m : Int, i = .int .i64 m ∧ doneW base l m = doneW base l n ∧ Ext w wr) (fun i _ => (1000001 - intOf i).toNat)
  case atStart => exact ⟨n, rfl, rfl, Ext.refl _⟩
  case round =>
    obtain ⟨m, rfl, hd, hX⟩ := hrel
    go_wp2_with (fail)
    refine (sumFixS_any base l m v _ (hv.ext hX) hok).mono ?_
    rintro e w1 ⟨rfl, hb⟩
    have hX1 := hX.call hb
    have hq : optN (bif topB m 0 then some (sumL base l m) else none) = .tuple #[.int .i64 (sumT base l m), .bool (topB m 0)] := by unfold sumT; cases topB m 0 <;> rfl
    rw [hq]
    have h1 := Lib.hid (fun h => doneW_here (base := base) (l := l) (w := m) h)
    have h2 := Lib.hid (fun h => doneW_next (base := base) (l := l) (w := m) h)
    have h3 := Lib.hid (fun h => sumT_up (base := base) (l := l) (w := m) h)
    clear hq
    generalize sumT base l m = s at h1 h2 h3 ⊢
    generalize topB m 0 = q
    by_cases he : s ≤ m
    · have h4 := Lib.hid (h1.out he)
      go_wp2_with (fail)
      go_ret
      exact ⟨by rw [← hd, h4.out]; rfl, hX1.below⟩
    · have h4 := Lib.hid (h2.out he)
      have h5 := h3.out he
      go_wp2_with (fail)
      exact ⟨⟨s, rfl, by rw [← h4.out]; exact hd, hX1⟩, h5⟩
def mayOdd (p : Ld) : Bool := decide (p.1 < 1) || decide (1000000 < p.1) || decide (p.2 < 0) || decide (1000000 < p.2)
theorem mayOdd_eq (p : Ld) : mayOdd p = ldOdd p := by
  rw [Bool.eq_iff_iff]
  simp only [mayOdd, ldOdd, Bool.or_eq_true, decide_eq_true_eq, Bool.not_eq_true', ← Bool.not_eq_true, topB_iff]
  omega
theorem may_out {base : Int} {l : List Ld} (h : (decide (base < 0) || decide (1000000 < base) || decide (64 < (l.length : Int))) = true) : okB base l = false := by
  cases hb : okB base l with
  | false => rfl
  | true =>
    have := okB_iff.1 hb
    have h1 := this.base0; have h2 := this.base1; have h3 := this.len
    simp only [Bool.or_eq_true, decide_eq_true_eq] at h
    omega
theorem may_in {base : Int} {l : List Ld} (h : (decide (base < 0) || decide (1000000 < base) || decide (64 < (l.length : Int))) = false) : okB base l = !l.any ldOdd := by
  simp only [Bool.or_eq_false_iff, decide_eq_false_iff_not] at h
  rw [← okB_any, show topB base 0 = true from topB_iff.2 (by omega), decide_eq_true (show (l.length : Int) ≤ 64 by omega)]
  rfl
end Go.Proofs.YtknfdjnbndfboabDoor
