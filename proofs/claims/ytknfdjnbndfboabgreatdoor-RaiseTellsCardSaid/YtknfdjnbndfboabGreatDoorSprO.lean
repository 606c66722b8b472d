/- spread.Of, ref15.Of; slices.Min. -/
import Derived.Test.YtknfdjnbndfboabGreatDoorProg
import Derived.Test.YtknfdjnbndfboabGreatDoorBase
import Derived.Test.YtknfdjnbndfboabGreatDoorHeldX
import Derived.Test.YtknfdjnbndfboabGreatDoorApp
import Derived.Test.YtknfdjnbndfboabGreatDoorTsk1
import Derived.Test.YtknfdjnbndfboabGreatDoorTsk3
import Derived.Test.YtknfdjnbndfboabGreatDoorTsk4
import Derived.Test.YtknfdjnbndfboabGreatDoorTskZ
import Derived.Test.YtknfdjnbndfboabGreatDoorTskP
import Derived.Test.YtknfdjnbndfboabGreatDoorTskA
import Derived.Test.YtknfdjnbndfboabGreatDoorTskO
import Derived.Test.YtknfdjnbndfboabGreatDoorSetO
import Derived.Test.YtknfdjnbndfboabGreatDoorRespS
import Derived.Test.YtknfdjnbndfboabGreatDoorResp
import Derived.Test.YtknfdjnbndfboabGreatDoorTolA
import Derived.Test.YtknfdjnbndfboabGreatDoorTolP
import Derived.Test.YtknfdjnbndfboabGreatDoorRef8
import Derived.Deep.Cut
import Derived.Lib.Hide
namespace Go.Proofs.YtknfdjnbndfboabGreatDoor
open Go.RowKit
attribute [local go_sem] setCell_twice ByteArray.toList_eq str_list Ext.alloc Ext.drew
set_option linter.unusedSimpArgs false
set_option maxRecDepth 100000
set_option maxHeartbeats 6400000
attribute [local irreducible] popN

/-- the least of the first i + 1 -/
def minAt (bs : List Int) : Nat → Int
  | 0 => bs.getD 0 0
  | i + 1 => min (minAt bs i) (bs.getD (i + 1) 0)
theorem minAt_take (bs : List Int) (n : Nat) : ∀ i, i < n → minAt (bs.take n) i = minAt bs i
  | 0, h => by
    unfold minAt
    cases bs <;> cases n <;> first | rfl | omega
  | i + 1, h => by
    have := minAt_take bs n i (by omega)
    unfold minAt
    rw [this]
    congr 1
    simp [List.getD, List.getElem?_take, h]
/-- the longest Q of task i -/
def qAt (w0 : Int) (bs : List Int) : Nat → Int
  | 0 => w0
  | i + 1 => minAt bs i
def qsL (w0 : Int) (bs : List Int) (n : Nat) : List Int := (List.range n).map (qAt w0 bs)
theorem qsL_succ (w0 : Int) (bs : List Int) (n : Nat) : qsL w0 bs (n + 1) = qsL w0 bs n ++ [qAt w0 bs n] := by
  unfold qsL
  rw [List.range_succ, List.map_append]
  rfl
theorem qsL_len (w0 : Int) (bs : List Int) (n : Nat) : (qsL w0 bs n).length = n := by unfold qsL; simp
/-- the work of the first task -/
def workH (s : TSet) : Int := match s.tasks with
  | [] => 0
  | t :: _ => workL t.regs
theorem workH_eq {s : TSet} (h : 0 < s.tasks.length) : workH s = workL s.tasks[0].regs := by
  obtain ⟨r, ts⟩ := s
  cases ts with
  | nil => simp at h
  | cons t ts => rfl
def spreadQ (s : TSet) : Option (List Int) := (tolS s).map fun bs => qsL (workH s) bs s.tasks.length
theorem tolS_some {s : TSet} {bs : List Int} (h : tolS s = some bs) : allB s = true ∧ tolL s s.tasks.length = some bs ∧ bs.length = s.tasks.length := by
  unfold tolS at h
  split at h
  · rename_i ha
    exact ⟨ha, h, tolL_len s _ _ h⟩
  · cases h
theorem row_one (w : World) (x : Int) {base : Nat} (hb : base ≤ w.heap.size) : RowI (w.alloc (.cells #[.int .i64 x] 2)) base (.slice (some ⟨w.heap.size, 0, none⟩) 1 1) [x] := by
  unfold RowI OwnL
  exact ⟨by simp [encI], .inr ⟨w.heap.size, 1, #[.int .i64 x], rfl, hb, heap_alloc_new w _, Nat.le_refl _, by unfold maxLen; decide, rfl, by simp [encI]⟩⟩
end Go.Proofs.YtknfdjnbndfboabGreatDoor
