/- RaiseAccepted. -/
import Derived.Test.YtknfdjnbndfboabGreatDoorProg
import Derived.Test.YtknfdjnbndfboabGreatDoorBase
import Derived.Test.YtknfdjnbndfboabGreatDoorHeldX
import Derived.Test.YtknfdjnbndfboabGreatDoorApp
import Derived.Test.YtknfdjnbndfboabGreatDoorTsk1
import Derived.Test.YtknfdjnbndfboabGreatDoorTsk3
import Derived.Test.YtknfdjnbndfboabGreatDoorTsk4
import Derived.Test.YtknfdjnbndfboabGreatDoorTskZ
import Derived.Test.YtknfdjnbndfboabGreatDoorTskP
import Derived.Test.YtknfdjnbndfboabGreatDoorTskA
import Derived.Test.YtknfdjnbndfboabGreatDoorTskO
import Derived.Test.YtknfdjnbndfboabGreatDoorSetO
import Derived.Test.YtknfdjnbndfboabGreatDoorRespS
import Derived.Test.YtknfdjnbndfboabGreatDoorResp
import Derived.Test.YtknfdjnbndfboabGreatDoorTolA
import Derived.Test.YtknfdjnbndfboabGreatDoorTolP
import Derived.Test.YtknfdjnbndfboabGreatDoorAdm
import Derived.Test.YtknfdjnbndfboabGreatDoorRefJ
import Derived.Test.YtknfdjnbndfboabGreatDoorSprO
import Derived.Test.YtknfdjnbndfboabGreatDoorSprP
import Derived.Test.YtknfdjnbndfboabGreatDoorSprL
import Derived.Test.YtknfdjnbndfboabGreatDoorRaiO
import Derived.Test.YtknfdjnbndfboabGreatDoorRaiP
import Derived.Test.YtknfdjnbndfboabGreatDoorRaiL
import Derived.Test.YtknfdjnbndfboabGreatDoorLaw17k
import Derived.Deep.Cut
import Derived.Lib.Hide
namespace Go.Proofs.YtknfdjnbndfboabGreatDoor
open Go.RowKit
attribute [local go_sem] setCell_twice ByteArray.toList_eq str_list Ext.alloc Ext.drew vdHow
set_option linter.unusedSimpArgs false
set_option maxRecDepth 100000
set_option maxHeartbeats 6400000
attribute [local irreducible] popN Calls

theorem raiseAccepted_walk (v : Value) (s : TSet) (w : World) (hv : ∃ x, v = setV s x ∧ Tasks w x s.tasks ∧ s.fit) (hG : GOK w) :
    Calls Tryz.prog 4 #[v] w fun e w' => e = .returned (.bool true) ∧ Below w.heap.size w w' := by
  obtain ⟨x, rfl, hx, hf⟩ := hv
  have l1 := hx.len
  have hg := hf.good
  have hx0 := hx
  obtain ⟨A, c, rfl, hle, hcm, _⟩ := hx0
  unfold maxLen at hcm
  go_enter Tryz.func4, Tryz.ntmps4
  unfold setV
  go_upto_region 1 with (fail)
  have hL : Below w.heap.size w (w.alloc (.cells #[.int .i64 s.reload, (.slice A s.tasks.length c)] 24)) := (by repeat (first | exact Below.refl _ _ | assumption | refine Below.drew ?_ | refine Below.alloc ?_ (by first | (simp; done) | (simp; omega) | omega) _ | refine Below.setCell ?_ (by first | (simp; done) | (simp; omega) | omega) _)); have hB : Blk (w.alloc (.cells #[.int .i64 s.reload, (.slice A s.tasks.length c)] 24)) w.heap.size #[.int .i64 s.reload, (.slice A s.tasks.length c)] 24 := Blk.new _ _ _
  have hr := hx.ext ⟨hL⟩
  have hG0 := hG.below hL
  generalize w.alloc _ = W at hL hB hr hG0 ⊢
  have hc := hB.under
  have hc0 := hc W (Ext.refl W)
  have HK := Lib.hid fun (W' : World) (h : Ext W W') => known17_any W' (hG0.below h.below)
  go_wp2_with (fail)
  refine (may17_any s _ _ hr hg).mono ?_
  rintro e w1 ⟨rfl, hb1⟩
  have hX1 : Ext W w1 := ⟨hb1⟩
  clear hc0 hb1
  cases hm : may14 s with
  | false =>
    go_wp2_with (fail)
    go_ret
    exact ⟨rfl, hL.trans (hX1.below.mono hL.size)⟩
  | true =>
    have hP := raisePut_any s (.slice A s.tasks.length c) w1 (hr.ext hX1) hf (hG0.below hX1.below)
    have hc1 := hc w1 hX1
    clear hm
    cases ho : raiseQ s with
    | none =>
      rw [raiseS_none ho, ho] at hP
      have hP : Calls Tryz.prog 9 #[setV s (.slice A s.tasks.length c)] w1 fun e w' => ∃ v' ps, e = .returned (.tuple #[setV ⟨0, []⟩ v', .bool false]) ∧ PutOwn w' w1.heap.size v' ps ∧ ps.map (·.1) = [] ∧ Below w1.heap.size w1 w' := hP
      clear ho
      go_wp2_with (fail)
      refine hP.mono ?_
      rintro e w2 ⟨v2, ps, rfl, hP2, hps, hb2⟩
      have hX2 := hX1.call hb2
      have hps0 : ps = [] := List.map_eq_nil_iff.1 hps
      subst hps0
      obtain ⟨Av, cv, rfl, _, _⟩ := hP2.1.form
      unfold setV
      dsimp only
      clear hc1
      go_wp2_with (fail)
      have hX3 := hX2.alloc (.cells #[.int .i64 0, .slice Av ([] : List (Tsk × Value)).length cv] 24)
      refine (HK.out _ hX3).mono ?_
      rintro e w4 ⟨rfl, hb4⟩
      go_wp2_with (fail)
      go_ret
      exact ⟨rfl, hL.trans ((hX3.call hb4).below.mono hL.size)⟩
    | some qs =>
      obtain ⟨bs, hS⟩ := Raise.of hf ho
      rw [raiseS_some ho, ho] at hP
      have hacc := hS.acc hf hS.thr (fun _ _ _ => Int.le_refl _)
      have hall := hS.thr.all hS.all
      have hfx := hS.thr.fit hS.fine.len.2 hf
      have hsx := fine_of hall hfx
      generalize zipT threshT s qs = y at hP hacc hall hfx hsx
      have hP : Calls Tryz.prog 9 #[setV s (.slice A s.tasks.length c)] w1 fun e w' => ∃ v' ps, e = .returned (.tuple #[setV y v', .bool true]) ∧ PutOwn w' w1.heap.size v' ps ∧ ps.map (·.1) = y.tasks ∧ Below w1.heap.size w1 w' := hP
      clear ho hS
      have HA := Lib.hid fun (u : Value) (W' : World) (hT : Tasks W' u y.tasks) => allR_any y u W' hT hfx.good
      have HJ := Lib.hid fun (u : Value) (W' : World) (hT : Tasks W' u y.tasks) => judge13_any y u W' hT hsx
      rw [hall] at HA
      generalize judgeS y = d at HJ hacc
      obtain ⟨dh, dt, drs⟩ := d
      dsimp only at hacc
      subst hacc
      unfold vdV at HJ
      dsimp only at HJ
      clear hall
      go_wp2_with (fail)
      refine hP.mono ?_
      rintro e w2 ⟨v2, ps, rfl, hP2, hps, hb2⟩
      have hX2 := hX1.call hb2
      have hT2 : Tasks w2 v2 y.tasks := hps ▸ hP2.tasks
      obtain ⟨Av, cv, rfl, _, _, _⟩ := id hT2
      clear hP2 hps hc1
      unfold setV
      dsimp only
      go_upto_region 4 with (fail)
      have hX3 := hX2.alloc (.cells #[.int .i64 y.reload, .slice Av y.tasks.length cv] 24)
      have hBx : Blk (w2.alloc (.cells #[.int .i64 y.reload, .slice Av y.tasks.length cv] 24)) w2.heap.size #[.int .i64 y.reload, .slice Av y.tasks.length cv] 24 := Blk.new _ _ _
      have hT3 := hT2.ext ((Ext.refl w2).alloc (.cells #[.int .i64 y.reload, .slice Av y.tasks.length cv] 24))
      generalize w2.heap.size = gx at hBx ⊢
      generalize w2.alloc _ = w3 at hX3 hBx hT3 ⊢
      have hcx := hBx.cell
      go_wp2_with (fail)
      refine (HA.out _ w3 hT3).mono ?_
      rintro e w4 ⟨rfl, hb4⟩
      have hX4 := hX3.call hb4
      have hT4 := hT3.ext ⟨hb4⟩
      have hcx4 := (hBx.ext ⟨hb4⟩).cell
      clear hcx
      go_wp2_with (fail)
      refine (HJ.out _ w4 hT4).mono ?_
      rintro e w5 ⟨r5, rfl, _, hb5⟩
      have hX5 := hX4.call hb5
      go_wp2_with (fail)
      refine (HK.out _ hX5).mono ?_
      rintro e w6 ⟨rfl, hb6⟩
      go_wp2_with (fail)
      go_ret
      exact ⟨rfl, hL.trans ((hX5.call hb6).below.mono hL.size)⟩
end Go.Proofs.YtknfdjnbndfboabGreatDoor
