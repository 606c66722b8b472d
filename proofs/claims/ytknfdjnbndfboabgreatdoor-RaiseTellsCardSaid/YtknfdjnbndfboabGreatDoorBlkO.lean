/- block: Of, Most; slices.Max. -/
import Derived.Test.YtknfdjnbndfboabGreatDoorProg
import Derived.Test.YtknfdjnbndfboabGreatDoorBase
import Derived.Test.YtknfdjnbndfboabGreatDoorHeldX
import Derived.Test.YtknfdjnbndfboabGreatDoorTsk1
import Derived.Test.YtknfdjnbndfboabGreatDoorTsk3
import Derived.Test.YtknfdjnbndfboabGreatDoorTskZ
import Derived.Test.YtknfdjnbndfboabGreatDoorRespS
import Derived.Test.YtknfdjnbndfboabGreatDoorAgain
import Derived.Test.YtknfdjnbndfboabGreatDoorBit
import Derived.Test.YtknfdjnbndfboabGreatDoorNumP
import Derived.Deep.Cut
import Derived.Lib.Hide
namespace Go.Proofs.YtknfdjnbndfboabGreatDoor
open Go.RowKit
attribute [local go_sem] setCell_twice ByteArray.toList_eq str_list Ext.alloc Ext.drew
set_option linter.unusedSimpArgs false
set_option maxRecDepth 100000
set_option maxHeartbeats 6400000
attribute [local irreducible] popN

theorem maxR_step (xs : List Int) (k : Nat) (h : k < xs.length) : maxR (xs.take (k + 1)) = max (maxR (xs.take k)) xs[k] := by
  unfold maxR
  rw [List.take_succ_eq_append_getElem h, List.foldl_append]
  rfl
theorem maxR_one (xs : List Int) (h : 0 < xs.length) (h0 : 0 ≤ xs[0]) : maxR (xs.take 1) = xs[0] := by
  rw [maxR_step xs 0 h]
  show max 0 _ = _
  omega
end Go.Proofs.YtknfdjnbndfboabGreatDoor
