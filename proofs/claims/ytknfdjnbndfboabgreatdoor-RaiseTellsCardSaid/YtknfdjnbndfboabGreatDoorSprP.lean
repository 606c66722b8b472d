/- spread.Put; slices.Clone. -/
import Derived.Test.YtknfdjnbndfboabGreatDoorProg
import Derived.Test.YtknfdjnbndfboabGreatDoorBase
import Derived.Test.YtknfdjnbndfboabGreatDoorHeldX
import Derived.Test.YtknfdjnbndfboabGreatDoorApp
import Derived.Test.YtknfdjnbndfboabGreatDoorTsk1
import Derived.Test.YtknfdjnbndfboabGreatDoorTsk3
import Derived.Test.YtknfdjnbndfboabGreatDoorTsk4
import Derived.Test.YtknfdjnbndfboabGreatDoorTskZ
import Derived.Test.YtknfdjnbndfboabGreatDoorTskP
import Derived.Test.YtknfdjnbndfboabGreatDoorTskN
import Derived.Test.YtknfdjnbndfboabGreatDoorTskA
import Derived.Test.YtknfdjnbndfboabGreatDoorTskO
import Derived.Test.YtknfdjnbndfboabGreatDoorSetO
import Derived.Test.YtknfdjnbndfboabGreatDoorRespS
import Derived.Test.YtknfdjnbndfboabGreatDoorResp
import Derived.Test.YtknfdjnbndfboabGreatDoorTolA
import Derived.Test.YtknfdjnbndfboabGreatDoorTolP
import Derived.Test.YtknfdjnbndfboabGreatDoorRef8
import Derived.Test.YtknfdjnbndfboabGreatDoorSprO
import Derived.Test.YtknfdjnbndfboabGreatDoorShelf
import Derived.Deep.Cut
import Derived.Lib.Hide
namespace Go.Proofs.YtknfdjnbndfboabGreatDoor
open Go.RowKit
attribute [local go_sem] setCell_twice ByteArray.toList_eq str_list Ext.alloc Ext.drew
set_option linter.unusedSimpArgs false
set_option maxRecDepth 100000
set_option maxHeartbeats 6400000
attribute [local irreducible] popN

theorem clone_any (xs : List Int) (v : Value) (w : World) (hv : Ints w v xs) (hne : xs ≠ []) (hl : xs.length ≤ 1000) :
    Calls Tryz.prog 22 #[v] w fun e w' => ∃ v', e = .returned v' ∧ RowI w' w.heap.size v' xs ∧ Below w.heap.size w w' := by
  obtain ⟨A, c, rfl, hle, hcm, hx⟩ := hv
  obtain ⟨b, o, rfl, hc⟩ := hx hne
  obtain ⟨i0, hi, hz0, hz1, hz2⟩ := info_parts infoI64
  refine (Tryz.slices_Clone i0 _ 1 8 hi hz0 hz1 hz2 rfl (by decide) (fun _ => by kernel_rfl) b o xs.length c (xs.map (Value.int .i64)) w (by simp) (by unfold maxLen; omega) (by omega) (fun j u hu => ?_) (by simp [Value.oneCell'])).mono ?_
  · have hj : j < xs.length := by
      have := (List.getElem?_eq_some_iff.1 hu).1
      simpa using this
    have := hc j hj
    rw [this]
    rw [← hu]
    simp [hj]
  · rintro e w' ⟨v', rfl, ho, _, hb⟩
    refine ⟨v', rfl, ?_, hb⟩
    unfold RowI OwnL
    rw [encI_flat]
    exact ho
/-- each task by its number -/
def zipT (f : Tsk → Int → Tsk) (s : TSet) (qs : List Int) : TSet := ⟨s.reload, List.zipWith f s.tasks qs⟩
theorem zipT_len (f : Tsk → Int → Tsk) (s : TSet) (qs : List Int) (h : qs.length = s.tasks.length) : (zipT f s qs).tasks.length = s.tasks.length := by simp [zipT, h]
theorem zipT_get (f : Tsk → Int → Tsk) (s : TSet) (qs : List Int) (j : Nat) (h : j < (zipT f s qs).tasks.length) (h1 : j < s.tasks.length) (h2 : j < qs.length) : (zipT f s qs).tasks[j] = f s.tasks[j] qs[j] := by simp [zipT]
def floatT (t : Tsk) (q : Int) : Tsk := modedT 1 q 0 t
/-- what spread.Put answers -/
def spreadS (s : TSet) : TSet := match spreadQ s with
  | some qs => zipT floatT s qs
  | none => ⟨0, []⟩
end Go.Proofs.YtknfdjnbndfboabGreatDoor
