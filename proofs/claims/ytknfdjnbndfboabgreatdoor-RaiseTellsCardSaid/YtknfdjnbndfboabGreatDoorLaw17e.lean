/- RaiseTells. -/
import Derived.Test.YtknfdjnbndfboabGreatDoorProg
import Derived.Test.YtknfdjnbndfboabGreatDoorBase
import Derived.Test.YtknfdjnbndfboabGreatDoorHeldX
import Derived.Test.YtknfdjnbndfboabGreatDoorApp
import Derived.Test.YtknfdjnbndfboabGreatDoorTsk1
import Derived.Test.YtknfdjnbndfboabGreatDoorTsk3
import Derived.Test.YtknfdjnbndfboabGreatDoorTsk4
import Derived.Test.YtknfdjnbndfboabGreatDoorTskZ
import Derived.Test.YtknfdjnbndfboabGreatDoorTskD
import Derived.Test.YtknfdjnbndfboabGreatDoorTskR
import Derived.Test.YtknfdjnbndfboabGreatDoorTskI
import Derived.Test.YtknfdjnbndfboabGreatDoorTskP
import Derived.Test.YtknfdjnbndfboabGreatDoorTskN
import Derived.Test.YtknfdjnbndfboabGreatDoorTskA
import Derived.Test.YtknfdjnbndfboabGreatDoorTskO
import Derived.Test.YtknfdjnbndfboabGreatDoorSetO
import Derived.Test.YtknfdjnbndfboabGreatDoorRespS
import Derived.Test.YtknfdjnbndfboabGreatDoorResp
import Derived.Test.YtknfdjnbndfboabGreatDoorTolA
import Derived.Test.YtknfdjnbndfboabGreatDoorTolP
import Derived.Test.YtknfdjnbndfboabGreatDoorSprO
import Derived.Test.YtknfdjnbndfboabGreatDoorSprP
import Derived.Test.YtknfdjnbndfboabGreatDoorSprL
import Derived.Test.YtknfdjnbndfboabGreatDoorRaiO
import Derived.Test.YtknfdjnbndfboabGreatDoorRaiP
import Derived.Test.YtknfdjnbndfboabGreatDoorRaiL
import Derived.Test.YtknfdjnbndfboabGreatDoorRef17
import Derived.Test.YtknfdjnbndfboabGreatDoorLaw17k
import Derived.Deep.Cut
import Derived.Lib.Hide
namespace Go.Proofs.YtknfdjnbndfboabGreatDoor
open Go.RowKit
attribute [local go_sem] setCell_twice ByteArray.toList_eq str_list Ext.alloc Ext.drew
set_option linter.unusedSimpArgs false
set_option maxRecDepth 100000
set_option maxHeartbeats 6400000
attribute [local irreducible] popN Calls

theorem raiseR_eq {s : TSet} (h : allB s = true) : raiseR s = raiseQ s := by
  unfold raiseR raiseQ tolS
  rw [if_pos h]
theorem raiseRS_eq {s : TSet} (h : allB s = true) : raiseRS s = raiseS s := by
  unfold raiseRS raiseS
  rw [raiseR_eq h]
  cases raiseQ s <;> rfl
theorem raiseTells_walk (v : Value) (s : TSet) (w : World) (hv : ∃ x, v = setV s x ∧ Tasks w x s.tasks ∧ s.fit) (hG : GOK w) :
    Calls Tryz.prog 3 #[v] w fun e w' => e = .returned (.bool true) ∧ Below w.heap.size w w' := by
  obtain ⟨x, rfl, hx, hf⟩ := hv
  have l1 := hx.len
  have hg := hf.good
  have hx0 := hx
  obtain ⟨A, c, rfl, hle, hcm, _⟩ := hx0
  unfold maxLen at hcm
  go_enter Tryz.func3, Tryz.ntmps3
  unfold setV
  go_upto_region 1 with (fail)
  have hL : Below w.heap.size w (w.alloc (.cells #[.int .i64 s.reload, (.slice A s.tasks.length c)] 24)) := (by repeat (first | exact Below.refl _ _ | assumption | refine Below.drew ?_ | refine Below.alloc ?_ (by first | (simp; done) | (simp; omega) | omega) _ | refine Below.setCell ?_ (by first | (simp; done) | (simp; omega) | omega) _)); have hB : Blk (w.alloc (.cells #[.int .i64 s.reload, (.slice A s.tasks.length c)] 24)) w.heap.size #[.int .i64 s.reload, (.slice A s.tasks.length c)] 24 := Blk.new _ _ _
  have hr := hx.ext ⟨hL⟩
  have hG0 := hG.below hL
  generalize w.alloc _ = W at hL hB hr hG0 ⊢
  have hc := hB.under
  have hc0 := hc W (Ext.refl W)
  have HK := Lib.hid fun (W' : World) (h : Ext W W') => known17_any W' (hG0.below h.below)
  go_wp2_with (fail)
  refine (may17_any s _ _ hr hg).mono ?_
  rintro e w1 ⟨rfl, hb1⟩
  have hX1 : Ext W w1 := ⟨hb1⟩
  clear hc0 hb1
  cases hm : may14 s with
  | false =>
    go_wp2_with (fail)
    go_ret
    exact ⟨rfl, hL.trans (hX1.below.mono hL.size)⟩
  | true =>
    have hall := may14_all hm
    have hs := fine_of hall hf
    have HO := Lib.hid fun (W' : World) (h : Ext W W') => raiseOf_any s _ W' (hr.ext h) hf (hG0.below h.below)
    have HP := Lib.hid fun (W' : World) (h : Ext W W') => raisePut_any s _ W' (hr.ext h) hf (hG0.below h.below)
    have HO2 := Lib.hid fun (W' : World) (h : Ext W W') => ref17Of_any s _ W' (hr.ext h) hs
    have HP2 := Lib.hid fun (W' : World) (h : Ext W W') => ref17Put_any s _ W' (hr.ext h) hs hf
    rw [raiseR_eq hall] at HO2 HP2
    rw [raiseRS_eq hall] at HP2
    generalize (raiseQ s).getD [] = ls at HO HO2
    generalize (raiseQ s).isSome = ok at HO HO2 HP HP2
    generalize raiseS s = y at HP HP2
    have hc1 := hc w1 hX1
    clear hm hall hs
    go_wp2_with (fail)
    refine (HO.out w1 hX1).mono ?_
    rintro e w2 ⟨v2, rfl, hO2, hb2⟩
    have hX2 := hX1.call hb2
    have hc2 := hc w2 hX2
    have hI2 := hO2.ints
    obtain ⟨A2, c2, rfl, _, _⟩ := OwnL.form hO2
    clear hc1 hO2
    go_wp2_with (fail)
    refine (HO2.out w2 hX2).mono ?_
    rintro e w3 ⟨v3, rfl, hO3, hb3⟩
    have hX3 := hX2.call hb3
    have hc3 := hc w3 hX3
    have hI3 := hO3.ints
    have hI2 := hI2.ext ⟨hb3⟩
    obtain ⟨A3, c3, rfl, _, _⟩ := OwnL.form hO3
    clear hc2 hO3
    go_wp2_with (fail)
    refine (HP.out w3 hX3).mono ?_
    rintro e w4 ⟨v4, ps, rfl, hP4, hps, hb4⟩
    have hX4 := hX3.call hb4
    have hT4 : Tasks w4 v4 y.tasks := hps ▸ hP4.tasks
    have hI2 := hI2.ext ⟨hb4⟩
    have hI3 := hI3.ext ⟨hb4⟩
    obtain ⟨A4, c4, rfl, _, _, _⟩ := id hT4
    clear hc3 hP4 hps
    unfold setV
    dsimp only
    go_upto_region 6 with (fail)
    have hA5 := (Ext.refl w4).alloc (.cells #[.int .i64 y.reload, .slice A4 y.tasks.length c4] 24)
    have hB5 : Blk (w4.alloc (.cells #[.int .i64 y.reload, .slice A4 y.tasks.length c4] 24)) w4.heap.size #[.int .i64 y.reload, .slice A4 y.tasks.length c4] 24 := Blk.new _ _ _
    have hX5 := hX4.trans hA5
    have hT5 := hT4.ext hA5
    have hI2 := hI2.ext hA5
    have hI3 := hI3.ext hA5
    generalize w4.heap.size = g5 at hB5 ⊢
    generalize w4.alloc _ = w5 at hA5 hB5 hX5 hT5 hI2 hI3 ⊢
    have hc5 := hc w5 hX5
    go_wp2_with (fail)
    refine (HP2.out w5 hX5).mono ?_
    rintro e w6 ⟨v6, rfl, hT6, hb6⟩
    have hA6 : Ext w5 w6 := ⟨hb6⟩
    obtain ⟨A6, c6, rfl, _, _, _⟩ := id hT6
    clear hc5
    unfold setV
    dsimp only
    go_upto_region 7 with (fail)
    have hA7 := (Ext.refl w6).alloc (.cells #[.int .i64 y.reload, .slice A6 y.tasks.length c6] 24)
    have hB7 : Blk (w6.alloc (.cells #[.int .i64 y.reload, .slice A6 y.tasks.length c6] 24)) w6.heap.size #[.int .i64 y.reload, .slice A6 y.tasks.length c6] 24 := Blk.new _ _ _
    have hA57 := hA6.trans hA7
    have hX7 := hX5.trans hA57
    have hT5 := hT5.ext hA57
    have hT7 := hT6.ext hA7
    have hI2 := hI2.ext hA57
    have hI3 := hI3.ext hA57
    have hB5 := hB5.ext hA57
    clear hA57
    generalize w6.heap.size = g7 at hB7 ⊢
    generalize w6.alloc _ = w7 at hA7 hB5 hB7 hX7 hT5 hT7 hI2 hI3 ⊢
    have hN := ints2_any _ _ ls ls w7 hI2 hI3
    rw [decide_eq_true rfl] at hN
    go_wp2_with (fail)
    refine hN.mono ?_
    rintro e w8 ⟨rfl, hb8⟩
    have hA8 : Ext w7 w8 := ⟨hb8⟩
    have hc5 := (hB5.ext hA8).cell
    have hc7 := (hB7.ext hA8).cell
    have hS := sameR_any y y _ _ w8 (hT5.ext hA8) (hT7.ext hA8)
    rw [decide_eq_true rfl] at hS
    unfold setV at hS
    go_wp2_with (fail)
    refine hS.mono ?_
    rintro e w9 ⟨rfl, hb9⟩
    have hX9 := (hX7.trans hA8).call hb9
    clear hc5 hc7
    go_wp2_with (fail)
    refine (HK.out w9 hX9).mono ?_
    rintro e w10 ⟨rfl, hb10⟩
    go_wp2_with (fail)
    go_ret
    exact ⟨rfl, hL.trans ((hX9.call hb10).below.mono hL.size)⟩
end Go.Proofs.YtknfdjnbndfboabGreatDoor
