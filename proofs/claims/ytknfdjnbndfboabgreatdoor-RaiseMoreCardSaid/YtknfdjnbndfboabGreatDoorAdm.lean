/- admit.Judge. -/
import Derived.Test.YtknfdjnbndfboabGreatDoorProg
import Derived.Test.YtknfdjnbndfboabGreatDoorBase
import Derived.Test.YtknfdjnbndfboabGreatDoorHeldX
import Derived.Test.YtknfdjnbndfboabGreatDoorApp
import Derived.Test.YtknfdjnbndfboabGreatDoorTsk1
import Derived.Test.YtknfdjnbndfboabGreatDoorTsk3
import Derived.Test.YtknfdjnbndfboabGreatDoorTskZ
import Derived.Test.YtknfdjnbndfboabGreatDoorTskP
import Derived.Test.YtknfdjnbndfboabGreatDoorTskA
import Derived.Test.YtknfdjnbndfboabGreatDoorTskO
import Derived.Test.YtknfdjnbndfboabGreatDoorSetO
import Derived.Test.YtknfdjnbndfboabGreatDoorRespS
import Derived.Test.YtknfdjnbndfboabGreatDoorResp
import Derived.Test.YtknfdjnbndfboabGreatDoorTolA
import Derived.Test.YtknfdjnbndfboabGreatDoorTolP
import Derived.Deep.Cut
import Derived.Lib.Hide
namespace Go.Proofs.YtknfdjnbndfboabGreatDoor
open Go.RowKit
attribute [local go_sem] setCell_twice ByteArray.toList_eq str_list Ext.alloc Ext.drew
set_option linter.unusedSimpArgs false
set_option maxRecDepth 100000
set_option maxHeartbeats 6400000
attribute [local irreducible] popN

def vdV (d : Vd) (r : Value) : Value := .agg #[.int .i64 d.how, .int .i64 d.task, r]
/-- what admit.Judge answers -/
def judgeA (s : TSet) : Vd := if allB s = true then judgeS s else ⟨0, 0, []⟩
def errA (s : TSet) : Int := if allB s = true then 0 else 1
theorem blk3 {w : World} {g : Nat} {z0 z1 z2 a b c : Value} {t : TypeId} (h : Blk w g #[z0, z1, z2] t) : Blk (((w.setCell ⟨g, 0, none⟩ a).setCell ⟨g, 1, none⟩ b).setCell ⟨g, 2, none⟩ c) g #[a, b, c] t := by
  have := ((h.set 0 a).set 1 b).set 2 c
  simpa using this
theorem ext3 {W w : World} (h : Ext W w) {g : Nat} (hg : W.heap.size ≤ g) (a b c : Value) : Ext W (((w.setCell ⟨g, 0, none⟩ a).setCell ⟨g, 1, none⟩ b).setCell ⟨g, 2, none⟩ c) := ((h.set hg a).set hg b).set hg c
theorem blk3_far {w : World} {g g' : Nat} {cs : Array Value} {t : TypeId} (h : Blk w g' cs t) (hne : g' ≠ g) (a b c : Value) : Blk (((w.setCell ⟨g, 0, none⟩ a).setCell ⟨g, 1, none⟩ b).setCell ⟨g, 2, none⟩ c) g' cs t :=
  ((h.far (p := ⟨g, 0, none⟩) hne a).far (p := ⟨g, 1, none⟩) hne b).far (p := ⟨g, 2, none⟩) hne c
end Go.Proofs.YtknfdjnbndfboabGreatDoor
