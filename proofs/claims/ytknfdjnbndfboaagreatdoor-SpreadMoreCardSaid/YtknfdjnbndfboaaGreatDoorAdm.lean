/- admit.Judge. -/
import Derived.Test.YtknfdjnbndfboaaGreatDoorProg
import Derived.Test.YtknfdjnbndfboaaGreatDoorBase
import Derived.Test.YtknfdjnbndfboaaGreatDoorHeldX
import Derived.Test.YtknfdjnbndfboaaGreatDoorApp
import Derived.Test.YtknfdjnbndfboaaGreatDoorTsk1
import Derived.Test.YtknfdjnbndfboaaGreatDoorTsk3
import Derived.Test.YtknfdjnbndfboaaGreatDoorTskZ
import Derived.Test.YtknfdjnbndfboaaGreatDoorTskP
import Derived.Test.YtknfdjnbndfboaaGreatDoorTskA
import Derived.Test.YtknfdjnbndfboaaGreatDoorTskO
import Derived.Test.YtknfdjnbndfboaaGreatDoorSetO
import Derived.Test.YtknfdjnbndfboaaGreatDoorRespS
import Derived.Test.YtknfdjnbndfboaaGreatDoorResp
import Derived.Test.YtknfdjnbndfboaaGreatDoorTolA
import Derived.Test.YtknfdjnbndfboaaGreatDoorTolP
import Derived.Deep.Cut
import Derived.Lib.Hide
namespace Go.Proofs.YtknfdjnbndfboaaGreatDoor
open Go.RowKit
attribute [local go_sem] setCell_twice ByteArray.toList_eq str_list Ext.alloc Ext.drew
set_option linter.unusedSimpArgs false
set_option maxRecDepth 100000
set_option maxHeartbeats 6400000
attribute [local irreducible] popN

def vdV (d : Vd) (r : Value) : Value := .agg #[.int .i64 d.how, .int .i64 d.task, r]
/-- what admit.Judge answers -/
def judgeA (s : TSet) : Vd := if allB s = true then judgeS s else ⟨0, 0, []⟩
def errA (s : TSet) : Int := if allB s = true then 0 else 1
theorem blk3 {w : World} {g : Nat} {z0 z1 z2 a b c : Value} {t : TypeId} (h : Blk w g #[z0, z1, z2] t) : Blk (((w.setCell ⟨g, 0, none⟩ a).setCell ⟨g, 1, none⟩ b).setCell ⟨g, 2, none⟩ c) g #[a, b, c] t := by
  have := ((h.set 0 a).set 1 b).set 2 c
  simpa using this
theorem ext3 {W w : World} (h : Ext W w) {g : Nat} (hg : W.heap.size ≤ g) (a b c : Value) : Ext W (((w.setCell ⟨g, 0, none⟩ a).setCell ⟨g, 1, none⟩ b).setCell ⟨g, 2, none⟩ c) := ((h.set hg a).set hg b).set hg c
theorem blk3_far {w : World} {g g' : Nat} {cs : Array Value} {t : TypeId} (h : Blk w g' cs t) (hne : g' ≠ g) (a b c : Value) : Blk (((w.setCell ⟨g, 0, none⟩ a).setCell ⟨g, 1, none⟩ b).setCell ⟨g, 2, none⟩ c) g' cs t :=
  ((h.far (p := ⟨g, 0, none⟩) hne a).far (p := ⟨g, 1, none⟩) hne b).far (p := ⟨g, 2, none⟩) hne c
theorem judge_any (s : TSet) (v : Value) (w : World) (hv : Tasks w v s.tasks) (hf : s.fit) (hG : GOK w) :
    Calls Tryz.prog 12 #[setV s v] w fun e w' => ∃ r, e = .returned (.tuple #[vdV (judgeA s) r, .int .i64 (errA s)]) ∧ RowI w' w.heap.size r (judgeA s).rs ∧ Below w.heap.size w w' := by
  have l1 := hv.len
  have hg := hf.good
  have hv0 := hv
  obtain ⟨A, c, rfl, hle, hcm, _⟩ := hv0
  unfold maxLen at hcm
  go_enter Tryz.func12, Tryz.ntmps12
  unfold setV
  go_upto_region 1 with (fail)
  have hL : Below w.heap.size w ((w.alloc (.cells #[.int .i64 s.reload, .slice A s.tasks.length c] 24)).alloc (.cells #[.int .i64 0, .int .i64 0, .slice none 0 0] 28)) := (by repeat (first | exact Below.refl _ _ | assumption | refine Below.drew ?_ | refine Below.alloc ?_ (by first | (simp; done) | (simp; omega) | omega) _ | refine Below.setCell ?_ (by first | (simp; done) | (simp; omega) | omega) _))
  have hB : Blk ((w.alloc (.cells #[.int .i64 s.reload, .slice A s.tasks.length c] 24)).alloc (.cells #[.int .i64 0, .int .i64 0, .slice none 0 0] 28)) w.heap.size #[.int .i64 s.reload, .slice A s.tasks.length c] 24 := (Blk.new _ _ _).alloc _
  have hR : Blk ((w.alloc (.cells #[.int .i64 s.reload, .slice A s.tasks.length c] 24)).alloc (.cells #[.int .i64 0, .int .i64 0, .slice none 0 0] 28)) (w.heap.size + 1) #[.int .i64 0, .int .i64 0, .slice none 0 0] 28 := Blk.new_at _ _ _ _ (by simp)
  have hr := hv.ext ⟨hL⟩
  have hG0 := hG.below hL
  generalize (w.alloc _).alloc _ = W at hL hB hR hr hG0 ⊢
  have hc := hB.cell
  go_wp2_with (fail)
  refine (all_any s _ _ hr hg hG0).mono ?_
  rintro e w1 ⟨rfl, hb1⟩
  have hX1 : Ext W w1 := ⟨hb1⟩
  have hB1 := hB.ext hX1
  have hR1 := hR.ext hX1
  clear hc hb1
  have hX0 : Ext w w1 := ⟨hL.trans (hX1.below.mono hL.size)⟩
  cases hal : allB s with
  | false =>
    have hj : judgeA s = ⟨0, 0, []⟩ := by unfold judgeA; rw [hal]; rfl
    have he : errA s = 1 := by unfold errA; rw [hal]; rfl
    have HJ := Lib.hid hj
    have HE := Lib.hid he
    clear hj he
    have hcR := hR1.cell
    have hfR := hR1.free
    go_wp2_with (fail)
    have hR2 := (blk3 (a := .int .i64 0) (b := .int .i64 0) (c := .slice none 0 0) hR1).cell
    refine bodyPost_ret (v := .tuple #[vdV ⟨0, 0, []⟩ (.slice none 0 0), .int .i64 1]) (by simp [vdV, results, Tryz.results12, go_sem, hR2]) rfl ⟨_, by rw [HJ.out, HE.out], by rw [HJ.out]; exact OwnL.nil, (ext3 hX0 (by omega) _ _ _).below⟩
  | true =>
    have hs := fine_of hal hf
    have hlen := hs.len
    have hj : judgeA s = judgeS s := by unfold judgeA; rw [hal]; rfl
    have he : errA s = 0 := by unfold errA; rw [hal]; rfl
    have HJ := Lib.hid hj
    have HE := Lib.hid he
    clear hj he hal
    have hc1 := hB1.cell
    have hg1 : w.heap.size ≤ w1.heap.size := hX0.size
    have hlt1 := hR1.lt
    go_upto_region 4 with (fail)
    have hX2 := hX0.alloc (.cells #[.int .i64 1, .int .i64 0, .slice none 0 0] 28)
    have hB2 := hB1.alloc (.cells #[.int .i64 1, .int .i64 0, .slice none 0 0] 28)
    have hR2 := hR1.alloc (.cells #[.int .i64 1, .int .i64 0, .slice none 0 0] 28)
    have hr2 := (hr.ext hX1).ext ((Ext.refl w1).alloc (.cells #[.int .i64 1, .int .i64 0, .slice none 0 0] 28))
    have hV2 : Blk (w1.alloc (.cells #[.int .i64 1, .int .i64 0, .slice none 0 0] 28)) w1.heap.size #[.int .i64 1, .int .i64 0, .slice none 0 0] 28 := Blk.new _ _ _
    clear hc1 hB hR
    have hgv : w.heap.size + 1 < w1.heap.size := hlt1
    generalize w1.heap.size = gv at hg1 hgv hV2 ⊢
    generalize w1.alloc _ = W2 at hX2 hB2 hR2 hr2 hV2 ⊢
    have hc2 := hB2.cell
    go_wp2_with (fail)
    clear hc2
    go_loopw [16] (fun k wr => ∃ (q : Nat) (rv : Value) (ls : List Int), q ≤ s.tasks.length ∧ k = .int .i64 q ∧ Hid (judgeN s q = ⟨1, 0, ls⟩) ∧ Hid (ls.length = q) ∧ RowI wr w.heap.size rv ls ∧ Blk wr gv #[.int .i64 1, .int .i64 0, rv] 28 ∧ Blk wr (w.heap.size + 1) #[.int .i64 0, .int .i64 0, .slice none 0 0] 28 ∧ Blk wr w.heap.size #[.int .i64 s.reload, .slice A s.tasks.length c] 24 ∧ Tasks wr (.slice A s.tasks.length c) s.tasks ∧ Ext w wr) (fun k _ => s.tasks.length - (intOf k).toNat)
    case atStart => exact ⟨0, _, [], Nat.zero_le _, rfl, Lib.hid rfl, Lib.hid rfl, OwnL.nil, hV2, hR2, hB2, hr2, hX2⟩
    case round =>
      obtain ⟨q, rv, ls, hq, rfl, HL, hll, hO, hV, hR, hB, hT, hX⟩ := hrel
      have hcB := hB.cell
      by_cases hlt : q < s.tasks.length
      · have hC := respOf_any s (.slice A s.tasks.length c) q wr hT hs hlt
        have H1 := Lib.hid fun (h : (respS s q).2 ≠ 1) => judgeS_stop s hlt (by rw [HL.out]) h
        have H2 := Lib.hid fun (h : (respS s q).2 = 1) => judgeN_step s HL.out h
        generalize respS s q = p at hC H1 H2
        obtain ⟨p1, p2⟩ := p
        unfold pairZ at hC
        dsimp only at hC H1 H2
        go_wp2_with (fail)
        refine hC.mono ?_
        rintro e w3 ⟨rfl, hb3⟩
        have hX3 := hX.call hb3
        have hV3 := hV.ext ⟨hb3⟩
        have hR3 := hR.ext ⟨hb3⟩
        have hB3 := hB.ext ⟨hb3⟩
        have hT3 := hT.ext ⟨hb3⟩
        have hO3 : RowI w3 w.heap.size rv ls := OwnL.below hO hb3
        clear hcB hC hb3 hO hV hR hB hT
        by_cases hp : p2 = 1
        · have H3 := Lib.hid (H2.out hp)
          subst hp
          have hcV := hV3.cell
          have hfV := hV3.free
          obtain ⟨Av, cv, rfl, _, _⟩ := OwnL.form hO3
          go_wp2_with (at_builtin; (refine wpList_push rfl _ _ 26 rfl w.heap.size 2 Tryz.underlying26 infoI64 rfl (by decide) (by decide) encI ls _ rfl (hO3.alloc _) p1 w3.heap.size #[.int .i64 p1] 2 rfl (Blk.new _ _ _) rfl rfl (by simp [encI, Value.oneCell']) ?_ ?_ ?_; (· have := hll.out; omega); (· have := hX3.size; simp; omega); (intro v4 w4 hown hg hloc _; have hV4 := (hV3.alloc (.cells #[.int .i64 p1] 2)).grown hg (own_ne_blk hO3 hV3 (by decide)); have hc4 := hV4.cell; have hf4 := hV4.free; clear hcV hfV; obtain ⟨A4, c4, rfl⟩ := own_slice hown)))
          have hX4 : Ext w w4 := (hX3.alloc (.cells #[.int .i64 p1] 2)).grown hg (fun j hj => (OwnL.lt hO3 j hj).1)
          have hX5 := hX4.set (g := gv) (i := 2) (by omega) (.slice A4 (ls.length + 1) c4)
          have hV5 := hV4.set 2 (.slice A4 (ls.length + 1) c4)
          simp only [List.setIfInBounds_toArray, List.set_cons_zero, List.set_cons_succ] at hV5
          have hO5 := OwnL.set hown (a := ⟨gv, 2, none⟩) (own_ne_blk hown hV4 (by decide)) (.slice A4 (ls.length + 1) c4)
          have hne2 : w.heap.size + 1 ≠ gv := by omega
          have hne1 : w.heap.size ≠ gv := by omega
          have hR5 := ((hR3.alloc (.cells #[.int .i64 p1] 2)).grown hg (own_ne_blk hO3 hR3 (by decide))).far (p := ⟨gv, 2, none⟩) hne2 (.slice A4 (ls.length + 1) c4)
          have hB5 := ((hB3.alloc (.cells #[.int .i64 p1] 2)).grown hg (own_ne_blk hO3 hB3 (by decide))).far (p := ⟨gv, 2, none⟩) hne1 (.slice A4 (ls.length + 1) c4)
          have hT5 := hv.ext hX5
          rw [show ls.length + 1 = (ls ++ [p1]).length by simp] at hV5 hO5 hR5 hB5 hT5 hX5 ⊢
          exact ⟨⟨q + 1, _, ls ++ [p1], hlt, rfl, H3, Lib.hid (by rw [List.length_append, hll.out]; rfl), hO5, hV5, hR5, hB5, hT5, hX5⟩, by simp [intOf]; omega⟩
        · have H3 := Lib.hid (H1.out hp)
          have hcR := hR3.cell
          have hfR := hR3.free
          go_wp2_with (fail)
          have hR4 := (blk3 (a := .int .i64 p2) (b := .int .i64 q) (c := .slice none 0 0) hR3).cell
          refine bodyPost_ret (v := .tuple #[vdV ⟨p2, q, []⟩ (.slice none 0 0), .int .i64 0]) (by simp [vdV, results, Tryz.results12, go_sem, hR4]) rfl ⟨_, by rw [HJ.out, HE.out, H3.out], by rw [HJ.out, H3.out]; exact OwnL.nil, (ext3 hX3 (by omega) _ _ _).below⟩
      · have hqe : q = s.tasks.length := Nat.le_antisymm hq (Nat.not_lt.1 hlt)
        have hjs : judgeS s = ⟨1, 0, ls⟩ := by
          have := HL.out
          rw [hqe] at this
          exact this
        have H3 := Lib.hid hjs
        clear hjs
        have hcV := hV.cell
        have hfV := hV.free
        have hcR := hR.cell
        have hfR := hR.free
        obtain ⟨Av, cv, rfl, _, _⟩ := OwnL.form hO
        go_wp2_with (fail)
        have hR4 := (blk3 (a := .int .i64 1) (b := .int .i64 0) (c := .slice Av ls.length cv) hR).cell
        have hne0 : (Value.slice Av ls.length cv).ownBlock ≠ some (w.heap.size + 1) := own_ne_blk hO hR (by decide)
        refine bodyPost_ret (v := .tuple #[vdV ⟨1, 0, ls⟩ (.slice Av ls.length cv), .int .i64 0]) (by simp [vdV, results, Tryz.results12, go_sem, hR4]) rfl ⟨_, by rw [HJ.out, HE.out, H3.out], by rw [HJ.out, H3.out]; exact ((OwnL.set hO (a := ⟨w.heap.size + 1, 0, none⟩) hne0 _).set (a := ⟨w.heap.size + 1, 1, none⟩) hne0 _).set (a := ⟨w.heap.size + 1, 2, none⟩) hne0 _, (ext3 hX (by omega) _ _ _).below⟩
end Go.Proofs.YtknfdjnbndfboaaGreatDoor
