/- ref13.Judge. -/
import Derived.Test.YtknfdjnbndfboabGreatDoorProg
import Derived.Test.YtknfdjnbndfboabGreatDoorBase
import Derived.Test.YtknfdjnbndfboabGreatDoorHeldX
import Derived.Test.YtknfdjnbndfboabGreatDoorApp
import Derived.Test.YtknfdjnbndfboabGreatDoorTsk1
import Derived.Test.YtknfdjnbndfboabGreatDoorTsk3
import Derived.Test.YtknfdjnbndfboabGreatDoorTskZ
import Derived.Test.YtknfdjnbndfboabGreatDoorTskP
import Derived.Test.YtknfdjnbndfboabGreatDoorTskA
import Derived.Test.YtknfdjnbndfboabGreatDoorTskO
import Derived.Test.YtknfdjnbndfboabGreatDoorSetO
import Derived.Test.YtknfdjnbndfboabGreatDoorRespS
import Derived.Test.YtknfdjnbndfboabGreatDoorResp
import Derived.Test.YtknfdjnbndfboabGreatDoorTolA
import Derived.Test.YtknfdjnbndfboabGreatDoorTolP
import Derived.Test.YtknfdjnbndfboabGreatDoorAdm
import Derived.Test.YtknfdjnbndfboabGreatDoorRef9
import Derived.Deep.Cut
import Derived.Lib.Hide
namespace Go.Proofs.YtknfdjnbndfboabGreatDoor
open Go.RowKit
attribute [local go_sem] setCell_twice ByteArray.toList_eq str_list Ext.alloc Ext.drew
set_option linter.unusedSimpArgs false
set_option maxRecDepth 100000
set_option maxHeartbeats 6400000
attribute [local irreducible] popN

theorem judge13_any (s : TSet) (v : Value) (w : World) (hv : Tasks w v s.tasks) (hs : Fine s) :
    Calls Tryz.prog 15 #[setV s v] w fun e w' => ∃ r, e = .returned (vdV (judgeS s) r) ∧ RowI w' w.heap.size r (judgeS s).rs ∧ Below w.heap.size w w' := by
  have l1 := hv.len
  have hlen := hs.len
  have hv0 := hv
  obtain ⟨A, c, rfl, hle, hcm, _⟩ := hv0
  unfold maxLen at hcm
  go_enter Tryz.func15, Tryz.ntmps15
  unfold setV
  go_upto_region 2 with (fail)
  generalize hW : World.alloc _ (.cells _ 36) = W2
  have hX2 : Ext w W2 := ⟨by rw [← hW]; exact (by repeat (first | exact Below.refl _ _ | assumption | refine Below.drew ?_ | refine Below.alloc ?_ (by first | (simp; done) | (simp; omega) | omega) _ | refine Below.setCell ?_ (by first | (simp; done) | (simp; omega) | omega) _))⟩
  have hB2 : Blk W2 w.heap.size #[.int .i64 s.reload, .slice A s.tasks.length c] 24 := by rw [← hW]; exact ((Blk.new _ _ _).alloc _).alloc _
  have hR2 : Blk W2 (w.heap.size + 1) #[.int .i64 0, .int .i64 0, .slice none 0 0] 36 := by rw [← hW]; exact (Blk.new_at _ _ _ _ (by simp)).alloc _
  have hV2 : Blk W2 (w.heap.size + 1 + 1) #[.int .i64 1, .int .i64 0, .slice none 0 0] 36 := by rw [← hW]; exact Blk.new_at _ _ _ _ (by simp)
  clear hW
  obtain ⟨gv, hgv0⟩ : ∃ gv, gv = w.heap.size + 1 + 1 := ⟨_, rfl⟩
  rw [← hgv0] at hV2 ⊢
  have hgv : w.heap.size + 1 < gv := by omega
  have hg1 : w.heap.size ≤ gv := by omega
  clear hgv0
  have hr2 := hv.ext hX2
  have hc2 := hB2.cell
  go_wp2_with (fail)
  clear hc2
  go_loopw [4] (fun k wr => ∃ (q : Nat) (rv : Value) (ls : List Int), q ≤ s.tasks.length ∧ k = .int .i64 q ∧ Hid (judgeN s q = ⟨1, 0, ls⟩) ∧ Hid (ls.length = q) ∧ RowI wr w.heap.size rv ls ∧ Blk wr gv #[.int .i64 1, .int .i64 0, rv] 36 ∧ Blk wr (w.heap.size + 1) #[.int .i64 0, .int .i64 0, .slice none 0 0] 36 ∧ Blk wr w.heap.size #[.int .i64 s.reload, .slice A s.tasks.length c] 24 ∧ Tasks wr (.slice A s.tasks.length c) s.tasks ∧ Ext w wr) (fun k _ => s.tasks.length - (intOf k).toNat)
  case atStart => exact ⟨0, _, [], Nat.zero_le _, rfl, Lib.hid rfl, Lib.hid rfl, OwnL.nil, hV2, hR2, hB2, hr2, hX2⟩
  case round =>
    obtain ⟨q, rv, ls, hq, rfl, HL, hll, hO, hV, hR, hB, hT, hX⟩ := hrel
    have hcB := hB.cell
    by_cases hlt : q < s.tasks.length
    · have hC := respOf12_any s (.slice A s.tasks.length c) q wr hT hs hlt
      have H1 := Lib.hid fun (h : (respS s q).2 ≠ 1) => judgeS_stop s hlt (by rw [HL.out]) h
      have H2 := Lib.hid fun (h : (respS s q).2 = 1) => judgeN_step s HL.out h
      generalize respS s q = p at hC H1 H2
      obtain ⟨p1, p2⟩ := p
      unfold pairZ at hC
      dsimp only at hC H1 H2
      go_wp2_with (fail)
      refine hC.mono ?_
      rintro e w3 ⟨rfl, hb3⟩
      have hX3 := hX.call hb3
      have hV3 := hV.ext ⟨hb3⟩
      have hR3 := hR.ext ⟨hb3⟩
      have hB3 := hB.ext ⟨hb3⟩
      have hT3 := hT.ext ⟨hb3⟩
      have hO3 : RowI w3 w.heap.size rv ls := OwnL.below hO hb3
      clear hcB hC hb3 hO hV hR hB hT
      by_cases hp : p2 = 1
      · have H3 := Lib.hid (H2.out hp)
        subst hp
        have hcV := hV3.cell
        have hfV := hV3.free
        obtain ⟨Av, cv, rfl, _, _⟩ := OwnL.form hO3
        go_wp2_with (at_builtin; (refine wpList_push rfl _ _ 34 rfl w.heap.size 2 Tryz.underlying34 infoI64 rfl (by decide) (by decide) encI ls _ rfl (hO3.alloc _) p1 w3.heap.size #[.int .i64 p1] 2 rfl (Blk.new _ _ _) rfl rfl (by simp [encI, Value.oneCell']) ?_ ?_ ?_; (· have := hll.out; omega); (· have := hX3.size; simp; omega); (intro v4 w4 hown hg hloc _; have hV4 := (hV3.alloc (.cells #[.int .i64 p1] 2)).grown hg (own_ne_blk hO3 hV3 (by decide)); have hc4 := hV4.cell; have hf4 := hV4.free; clear hcV hfV; obtain ⟨A4, c4, rfl⟩ := own_slice hown)))
        have hX4 : Ext w w4 := (hX3.alloc (.cells #[.int .i64 p1] 2)).grown hg (fun j hj => (OwnL.lt hO3 j hj).1)
        have hX5 := hX4.set (g := gv) (i := 2) (by omega) (.slice A4 (ls.length + 1) c4)
        have hV5 := hV4.set 2 (.slice A4 (ls.length + 1) c4)
        simp only [List.setIfInBounds_toArray, List.set_cons_zero, List.set_cons_succ] at hV5
        have hO5 := OwnL.set hown (a := ⟨gv, 2, none⟩) (own_ne_blk hown hV4 (by decide)) (.slice A4 (ls.length + 1) c4)
        have hne2 : w.heap.size + 1 ≠ gv := by omega
        have hne1 : w.heap.size ≠ gv := by omega
        have hR5 := ((hR3.alloc (.cells #[.int .i64 p1] 2)).grown hg (own_ne_blk hO3 hR3 (by decide))).far (p := ⟨gv, 2, none⟩) hne2 (.slice A4 (ls.length + 1) c4)
        have hB5 := ((hB3.alloc (.cells #[.int .i64 p1] 2)).grown hg (own_ne_blk hO3 hB3 (by decide))).far (p := ⟨gv, 2, none⟩) hne1 (.slice A4 (ls.length + 1) c4)
        have hT5 := hv.ext hX5
        rw [show ls.length + 1 = (ls ++ [p1]).length by simp] at hV5 hO5 hR5 hB5 hT5 hX5 ⊢
        exact ⟨⟨q + 1, _, ls ++ [p1], hlt, rfl, H3, Lib.hid (by rw [List.length_append, hll.out]; rfl), hO5, hV5, hR5, hB5, hT5, hX5⟩, by simp [intOf]; omega⟩
      · have H3 := Lib.hid (H1.out hp)
        have hcR := hR3.cell
        have hfR := hR3.free
        go_wp2_with (fail)
        have hR4 := (blk3 (a := .int .i64 p2) (b := .int .i64 q) (c := .slice none 0 0) hR3).cell
        refine bodyPost_ret (v := vdV ⟨p2, q, []⟩ (.slice none 0 0)) (by simp [vdV, results, Tryz.results15, go_sem, hR4]) rfl ⟨_, by rw [H3.out], by rw [H3.out]; exact OwnL.nil, (ext3 hX3 (by omega) _ _ _).below⟩
    · have hqe : q = s.tasks.length := Nat.le_antisymm hq (Nat.not_lt.1 hlt)
      have hjs : judgeS s = ⟨1, 0, ls⟩ := by
        have := HL.out
        rw [hqe] at this
        exact this
      have H3 := Lib.hid hjs
      clear hjs
      have hcV := hV.cell
      have hfV := hV.free
      have hcR := hR.cell
      have hfR := hR.free
      obtain ⟨Av, cv, rfl, _, _⟩ := OwnL.form hO
      go_wp2_with (fail)
      have hR4 := (blk3 (a := .int .i64 1) (b := .int .i64 0) (c := .slice Av ls.length cv) hR).cell
      have hne0 : (Value.slice Av ls.length cv).ownBlock ≠ some (w.heap.size + 1) := own_ne_blk hO hR (by decide)
      refine bodyPost_ret (v := vdV ⟨1, 0, ls⟩ (.slice Av ls.length cv)) (by simp [vdV, results, Tryz.results15, go_sem, hR4]) rfl ⟨_, by rw [H3.out], by rw [H3.out]; exact ((OwnL.set hO (a := ⟨w.heap.size + 1, 0, none⟩) hne0 _).set (a := ⟨w.heap.size + 1, 1, none⟩) hne0 _).set (a := ⟨w.heap.size + 1, 2, none⟩) hne0 _, (ext3 hX (by omega) _ _ _).below⟩
/-- a verdict's first field -/
theorem vdHow (h t : Int) (r : Value) (w : World) : (Instr.field 36 (.agg #[.int .i64 h, .int .i64 t, r]) 0).run Tryz.prog w = .ok (.int .i64 h) w := by kernel_rfl
end Go.Proofs.YtknfdjnbndfboabGreatDoor
