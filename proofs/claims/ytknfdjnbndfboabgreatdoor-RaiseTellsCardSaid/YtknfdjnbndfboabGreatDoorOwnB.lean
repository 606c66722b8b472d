/- rows put back, one by one: plain. -/
import Derived.Test.YtknfdjnbndfboabGreatDoorProg
import Derived.Test.YtknfdjnbndfboabGreatDoorTskZ
namespace Go.Proofs.YtknfdjnbndfboabGreatDoor
open Go.RowKit
theorem back_step {a b : List Tsk} (h : b.length = a.length) {k : Nat} (hk : k < a.length) : (a.take k ++ b.drop k).set k a[k] = a.take (k + 1) ++ b.drop (k + 1) := by
  refine List.ext_getElem (by simp; omega) fun j h1 h2 => ?_
  rw [List.getElem_set]
  by_cases hj : k = j
  · subst hj
    rw [if_pos rfl, List.getElem_append_left (by simp; omega), List.getElem_take]
  · rw [if_neg hj]
    by_cases hjk : j < k
    · rw [List.getElem_append_left (by simp; omega), List.getElem_append_left (by simp; omega), List.getElem_take, List.getElem_take]
    · rw [List.getElem_append_right (by simp; omega), List.getElem_append_right (by simp; omega), List.getElem_drop, List.getElem_drop]
      congr 1
      simp
      omega
theorem back_at {a b : List Tsk} (h : b.length = a.length) {k : Nat} (hk : k < a.length) (hk2 : k < (a.take k ++ b.drop k).length) : (a.take k ++ b.drop k)[k] = b[k] := by
  rw [List.getElem_append_right (by rw [List.length_take]; exact Nat.min_le_left _ _), List.getElem_drop]
  congr 1
  simp
  omega
end Go.Proofs.YtknfdjnbndfboabGreatDoor
