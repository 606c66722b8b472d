/- The kernel: what is read off it. -/
import Derived.Test.YtniejidekflmiaaGreatDoorProg
import Derived.Test.YtniejidekflmiaaGreatDoorBase
import Derived.Test.YtniejidekflmiaaGreatDoorHeldX
import Derived.Test.YtniejidekflmiaaGreatDoorApp
import Derived.Test.YtniejidekflmiaaGreatDoorExt0
import Derived.Test.YtniejidekflmiaaGreatDoorChg
import Derived.Test.YtniejidekflmiaaGreatDoorRowB
import Derived.Test.YtniejidekflmiaaGreatDoorKM
import Derived.Test.YtniejidekflmiaaGreatDoorKP1
import Derived.Test.YtniejidekflmiaaGreatDoorOpenI
import Derived.Test.YtniejidekflmiaaGreatDoorTskP
import Derived.Test.YtniejidekflmiaaGreatDoorKat
import Derived.Test.YtniejidekflmiaaGreatDoorKlate
import Derived.Test.YtniejidekflmiaaGreatDoorKtab
import Derived.Deep.Cut
import Derived.Lib.Hide
import Derived.OwnWalk
import Derived.Maps.AppendAt
import Derived.BigQuiet
namespace Go.Proofs.YtniejidekflmiaaGreatDoor
open Go.RowKit
attribute [local go_sem] setCell_twice Ext.alloc Ext.drew
set_option linter.unusedSimpArgs false
set_option linter.unusedVariables false
set_option maxRecDepth 100000
set_option maxHeartbeats 400000
attribute [local irreducible] Calls
theorem ran_any (b : KB) (B : Nat) (s : TSet) (k : KS) (ev : Value) (os : List Ow) (w : World) (h : KAt b B w s k ev os) :
    Calls Tryz.prog 19 #[.pointer (some ⟨b.gk, 0, none⟩)] w fun e w' => e = .returned (.int .i64 k.ran) ∧ w = w' := by
  have hbox := h.box
  unfold kcs at hbox
  have hc := hbox.cell
  clear h hbox
  go_enter Tryz.func19, Tryz.ntmps19
  go_wp2_with (fail)
  go_ret
  exact ⟨rfl, by first | trivial | rfl⟩
theorem states_any (b : KB) (B : Nat) (s : TSet) (k : KS) (ev : Value) (os : List Ow) (w : World) (h : KAt b B w s k ev os) (hl : 1 ≤ k.tab.length) :
    Calls Tryz.prog 22 #[.pointer (some ⟨b.gk, 0, none⟩)] w fun e w' => ∃ v', e = .returned v' ∧ OwnL encSt w' w.heap.size 105 4 v' k.tab ∧ Ext w w' := by
  have hA := all_tab b.gt b.gs k.tab w h.tab hl
  have HA := Lib.hid hA
  have hbox := h.box
  unfold kcs at hbox
  have hc := hbox.cell
  clear h hbox hA
  go_enter Tryz.func22, Tryz.ntmps22
  go_wp2_with (fail)
  refine HA.out.mono ?_
  rintro e w1 ⟨v1, rfl, hO, hX⟩
  obtain ⟨A1, c1, rfl⟩ := OwnL.slice2 hO
  go_wp2_with (fail)
  go_ret
  exact ⟨_, rfl, hO, hX⟩
end Go.Proofs.YtniejidekflmiaaGreatDoor
