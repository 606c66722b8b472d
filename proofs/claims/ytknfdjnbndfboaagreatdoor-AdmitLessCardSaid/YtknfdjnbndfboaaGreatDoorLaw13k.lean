/- law 13: may, known. -/
import Derived.Test.YtknfdjnbndfboaaGreatDoorProg
import Derived.Test.YtknfdjnbndfboaaGreatDoorBase
import Derived.Test.YtknfdjnbndfboaaGreatDoorHeldX
import Derived.Test.YtknfdjnbndfboaaGreatDoorApp
import Derived.Test.YtknfdjnbndfboaaGreatDoorTsk1
import Derived.Test.YtknfdjnbndfboaaGreatDoorTsk3
import Derived.Test.YtknfdjnbndfboaaGreatDoorTsk4
import Derived.Test.YtknfdjnbndfboaaGreatDoorTskZ
import Derived.Test.YtknfdjnbndfboaaGreatDoorTskP
import Derived.Test.YtknfdjnbndfboaaGreatDoorTskA
import Derived.Test.YtknfdjnbndfboaaGreatDoorTskO
import Derived.Test.YtknfdjnbndfboaaGreatDoorSetO
import Derived.Test.YtknfdjnbndfboaaGreatDoorRespS
import Derived.Test.YtknfdjnbndfboaaGreatDoorResp
import Derived.Test.YtknfdjnbndfboaaGreatDoorTolA
import Derived.Test.YtknfdjnbndfboaaGreatDoorTolP
import Derived.Test.YtknfdjnbndfboaaGreatDoorAdm
import Derived.Deep.Cut
import Derived.Lib.Hide
namespace Go.Proofs.YtknfdjnbndfboaaGreatDoor
open Go.RowKit
attribute [local go_sem] setCell_twice ByteArray.toList_eq str_list Ext.alloc Ext.drew
set_option linter.unusedSimpArgs false
set_option maxRecDepth 100000
set_option maxHeartbeats 6400000
attribute [local irreducible] popN

def may13T (t : Tsk) : Bool := !decide (t.T < 3)
def may13 (s : TSet) : Bool := s.tasks.all may13T && decide (s.tasks.length ≤ 10)
theorem may13_any (s : TSet) (v : Value) (w : World) (hv : Tasks w v s.tasks) :
    Calls Tryz.prog 8 #[setV s v] w fun e w' => e = .returned (.bool (may13 s)) ∧ Below w.heap.size w w' := by
  have l1 := hv.len
  have hv0 := hv
  obtain ⟨A, c, rfl, hle, hcm, _⟩ := hv0
  unfold maxLen at hcm
  go_enter Tryz.func8, Tryz.ntmps8
  unfold setV
  go_upto_region 1 with (fail)
  have hL : Below w.heap.size w (w.alloc (.cells #[.int .i64 s.reload, (.slice A s.tasks.length c)] 24)) := (by repeat (first | exact Below.refl _ _ | assumption | refine Below.drew ?_ | refine Below.alloc ?_ (by first | (simp; done) | (simp; omega) | omega) _ | refine Below.setCell ?_ (by first | (simp; done) | (simp; omega) | omega) _)); have hB : Blk (w.alloc (.cells #[.int .i64 s.reload, (.slice A s.tasks.length c)] 24)) w.heap.size #[.int .i64 s.reload, (.slice A s.tasks.length c)] 24 := Blk.new _ _ _
  have hr := hv.ext ⟨hL⟩
  generalize w.alloc _ = W at hL hB hr ⊢
  have hc := hB.under
  have hm : may13 s = (s.tasks.all may13T && decide (s.tasks.length ≤ 10)) := rfl
  have HM := Lib.hid hm
  clear hm
  have hcell := hc W (Ext.refl W)
  go_wp2_with (fail)
  clear hcell
  go_loopw [3] (fun i wr => ∃ k : Nat, k ≤ s.tasks.length ∧ i = .int .i64 k ∧ Hid ((s.tasks.take k).all may13T = true) ∧ Ext W wr) (fun i _ => s.tasks.length - (intOf i).toNat)
  case atStart => exact ⟨0, Nat.zero_le _, rfl, Lib.hid rfl, Ext.refl W⟩
  case round =>
    obtain ⟨k, hk, rfl, ht, hX⟩ := hrel
    have hcr := hc wr hX
    by_cases hlt : k < s.tasks.length
    · obtain ⟨b, o, r, rfl, hx⟩ := hr.at hlt
      have h1 : may13T s.tasks[k] = true → (s.tasks.take (k + 1)).all may13T = true := fun h => by
        rw [List.take_succ_eq_append_getElem hlt, List.all_append, ht.out]
        simp [h]
      have h2 : may13T s.tasks[k] = false → s.tasks.all may13T = false := fun h => by
        rw [List.all_eq_false]
        exact ⟨_, List.getElem_mem hlt, by rw [h]; simp⟩
      have H1 := Lib.hid h1
      have H2 := Lib.hid h2
      clear h1 h2
      have hmt : may13T s.tasks[k] = !decide (s.tasks[k].T < 3) := rfl
      generalize s.tasks[k] = t at hx H1 H2 hmt
      obtain ⟨x0, x1, x2, x3, x4, x5, x6, x7, x8⟩ := hx.under
      have hx1 := x1 wr hX
      clear x0 x1 x2 x3 x4 x5 x6 x7 x8
      by_cases hq : t.T < 3
      · rw [decide_eq_true hq] at hmt
        have H3 := Lib.hid (H2.out hmt)
        clear hmt
        go_wp2_with (fail)
        go_ret
        exact ⟨by rw [HM.out, H3.out]; rfl, hL.trans (hX.below.mono hL.size)⟩
      · rw [decide_eq_false hq] at hmt
        have H3 := Lib.hid (H1.out hmt)
        clear hmt
        go_wp2_with (fail)
        exact ⟨⟨k + 1, hlt, rfl, H3, hX⟩, by simp [intOf]; omega⟩
    · have hke : k = s.tasks.length := Nat.le_antisymm hk (Nat.not_lt.1 hlt)
      have h3 := ht.out
      rw [hke, List.take_length] at h3
      have H3 := Lib.hid h3
      clear h3
      go_wp2_with (fail)
      go_ret
      exact ⟨by rw [HM.out, H3.out]; first | rfl | (simp; omega), hL.trans (hX.below.mono hL.size)⟩

/-- a row of two tasks -/
theorem tasks_two {w : World} {g : Nat} {t u : Tsk} {r r' : Value} {e : TypeId} (hT : Blk w g #[.string t.name, .int .i64 t.T, .int .i64 t.D, .int .i64 t.mode, .int .i64 t.q, .int .i64 t.theta, r, .int .u64 t.ecb, .int .u64 t.ucb, .string u.name, .int .i64 u.T, .int .i64 u.D, .int .i64 u.mode, .int .i64 u.q, .int .i64 u.theta, r', .int .u64 u.ecb, .int .u64 u.ucb] e) (hI : Ints w r t.regs) (hJ : Ints w r' u.regs) : Tasks w (.slice (some ⟨g, 0, none⟩) 2 2) [t, u] := by
  refine ⟨_, 2, rfl, Nat.le_refl _, by unfold maxLen; decide, fun _ => ⟨g, 0, rfl, fun i hi => ?_⟩⟩
  have hi0 : i = 0 ∨ i = 1 := by simp at hi; omega
  rcases hi0 with rfl | rfl
  · exact ⟨r, hI, hT.cell 0, hT.cell 1, hT.cell 2, hT.cell 3, hT.cell 4, hT.cell 5, hT.cell 6, hT.cell 7, hT.cell 8⟩
  · exact ⟨r', hJ, hT.cell 9, hT.cell 10, hT.cell 11, hT.cell 12, hT.cell 13, hT.cell 14, hT.cell 15, hT.cell 16, hT.cell 17⟩
theorem ints_one {w : World} {g : Nat} {x : Int} {e : TypeId} (hB : Blk w g #[.int .i64 x] e) : Ints w (.slice (some ⟨g, 0, none⟩) 1 1) [x] := by
  refine ⟨_, 1, rfl, Nat.le_refl _, by unfold maxLen; decide, fun _ => ⟨g, 0, rfl, fun i hi => ?_⟩⟩
  have hi0 : i = 0 := by simpa using hi
  subst hi0
  exact hB.cell 0
def ka13 : Tsk := ⟨str [97], 4, 4, 0, 0, 0, [2], 0, 0⟩
def kb13 : Tsk := ⟨str [98], 6, 6, 0, 0, 0, [3], 0, 0⟩
def kS13 : TSet := ⟨0, [ka13, kb13]⟩
theorem kS13_all : allB kS13 = true := by decide +kernel
theorem kS13_fit : kS13.fit := by
  refine ⟨by decide, by decide, fun t ht => ?_⟩
  have ht2 : t = ka13 ∨ t = kb13 := by simpa [kS13] using ht
  rcases ht2 with rfl | rfl
  · refine ⟨by decide, by decide, by decide, by decide, by decide, by decide, by decide, by decide, by decide, fun n hn => ?_⟩
    obtain rfl : n = 2 := by simpa [ka13] using hn
    decide
  · refine ⟨by decide, by decide, by decide, by decide, by decide, by decide, by decide, by decide, by decide, fun n hn => ?_⟩
    obtain rfl : n = 3 := by simpa [kb13] using hn
    decide
theorem kS13_own (t : Tsk) : ownZ kS13 t = 0 := by
  show (0 : Int) * _ = 0
  rw [Int.zero_mul]
theorem kS13_judge : judgeS kS13 = ⟨2, 1, []⟩ := by
  have hs := fine_of kS13_all kS13_fit
  have w0 : workL ka13.regs = 2 := by decide +kernel
  have w1 : workL kb13.regs = 3 := by decide +kernel
  have hm0 : mostS kS13 0 = 2 := by
    have e : mostS kS13 0 = max (mostL kS13 0 1) (blockOf kS13 1 0) := rfl
    rw [e, mostL_low kS13 0 1 (by omega)]
    have e2 : blockOf kS13 1 0 = blockAt kS13 kb13 0 := by unfold blockOf; rw [dif_pos (by decide)]; rfl
    have e3 : blockAt kS13 kb13 0 = maxR [3] + ownZ kS13 kb13 - 1 := rfl
    rw [e2, e3, kS13_own]
    decide
  have hr0 : (respS kS13 0).2 = 1 := by
    rw [respS_acc, hm0, accS_iff hs (by decide), loadsS_zero]
    show accP 4 (workL ka13.regs) 4 2 []
    rw [w0]
    exact acc_alone (by omega) (by omega) (by omega) (by omega) (by omega)
  have hl1 : loadsS kS13 1 = [(4, 2)] := by
    rw [loadsS_succ, loadsS_zero, loadAt_in kS13 (show 0 < kS13.tasks.length by decide)]
    have e : madeN kS13 0 (by decide) = 0 := by
      show (0 : Nat) * _ = 0
      exact Nat.zero_mul _
    rw [e]
    show [(ka13.T, workL ka13.regs + ((0 : Nat) : Int))] = [(4, 2)]
    rw [w0]
    rfl
  have hlo : LdsOk [((4 : Int), (2 : Int))] := by
    refine ⟨by simp, fun p hp => ?_⟩
    have hp2 : p = (4, 2) := by simpa using hp
    subst hp2
    decide
  have hr1 : (respS kS13 1).2 = 2 := by
    have e : respS kS13 1 = withL 6 3 6 0 [(4, 2)] := by
      unfold respS
      rw [mostS_last (by decide), withS_in kS13 (show 1 < kS13.tasks.length by decide), hl1]
      show withL 6 (workL kb13.regs) 6 0 [(4, 2)] = _
      rw [w1]
    rw [e]
    obtain ⟨long, h1, h2⟩ := (least_spec (hlo.with (b := 0) (T := 6) (w := 3) (by omega) (by omega) (by omega) (by omega)) (own_one hlo (by omega) (by omega) (by omega))).2 12 (by omega) (by omega) (by decide)
    have hna : (withL 6 3 6 0 [(4, 2)]).2 ≠ 1 := fun hc => by
      rw [acc_iff hlo (by omega) (by omega) (by omega)] at hc
      obtain ⟨long2, g1, g2⟩ := hc
      obtain ⟨_, _, z3, _, _⟩ := busy_job hlo (by omega) (by omega) g1
      obtain ⟨_, a2, a3, _, _, _⟩ := job_least hlo (by omega) (by omega) g1 0 (by simp; omega)
      have g3 := g2 0 (by simp; omega)
      simp only [Int.natCast_zero, Int.zero_add, Int.one_mul, Int.zero_mul] at a2 a3 g3
      generalize leastZ 3 [(4, 2)] = f at a2 a3 g3
      have e4 : sumL 3 [(4, 2)] f = 3 + 2 * ceilF f 4 := by unfold sumL termL; simp
      rw [e4] at a2
      have c1 := ceil_le (a := f) (b := 4) (x := 1) (by omega) (by omega)
      have c2 := ceil_le (a := f) (b := 4) (x := 0) (by omega) (by omega)
      omega
    unfold withL at hna ⊢
    rw [h1] at hna ⊢
    dsimp only at hna ⊢
    split
    · rename_i hd; rw [if_pos hd] at hna; exact absurd rfl hna
    · rfl
  have h1 := judgeN_step kS13 (n := 0) (ls := []) rfl hr0
  have := judgeS_stop kS13 (n := 1) (by decide) (by rw [h1]) (by rw [hr1]; decide)
  rw [this, hr1]
  rfl
theorem known13_any (w : World) (hG : GOK w) :
    Calls Tryz.prog 13 #[] w fun e w' => e = .returned (.bool true) ∧ Below w.heap.size w w' := by
  have HA := Lib.hid fun (v : Value) (W : World) (hv : Tasks W v kS13.tasks) (h : GOK W) => judge_any kS13 v W hv kS13_fit h
  have hj : judgeA kS13 = ⟨2, 1, []⟩ := by unfold judgeA; rw [kS13_all, if_pos rfl]; exact kS13_judge
  have he : errA kS13 = 0 := by unfold errA; rw [kS13_all]; rfl
  rw [hj, he] at HA
  clear hj he
  go_enter Tryz.func13, Tryz.ntmps13
  go_upto_region 2 with (fail)
  generalize hW : World.alloc _ (.cells _ 24) = W
  have hL : Below w.heap.size w W := by rw [← hW]; exact (by repeat (first | exact Below.refl _ _ | assumption | refine Below.drew ?_ | refine Below.alloc ?_ (by first | (simp; done) | (simp; omega) | omega) _ | refine Below.setCell ?_ (by first | (simp; done) | (simp; omega) | omega) _))
  have hB : Blk W (w.heap.size + 1 + 1 + 1) #[.int .i64 0, .slice (some ⟨w.heap.size + 1 + 1, 0, none⟩) 2 2] 24 := by rw [← hW]; exact Blk.new_at _ _ _ _ (by simp)
  have hI : Blk W w.heap.size #[.int .i64 2] 2 := by rw [← hW]; exact (((Blk.new _ _ _).alloc _).alloc _).alloc _
  have hJ : Blk W (w.heap.size + 1) #[.int .i64 3] 2 := by rw [← hW]; exact ((Blk.new_at _ _ _ _ (by simp)).alloc _).alloc _
  have hv : Tasks W (.slice (some ⟨w.heap.size + 1 + 1, 0, none⟩) 2 2) kS13.tasks := tasks_two (e := 33) (by rw [← hW]; exact (Blk.new_at _ _ _ _ (by simp)).alloc _) (ints_one hI) (ints_one hJ)
  have hc := hB.cell
  have hG0 := hG.below hL
  have H0 := HA.out (.slice (some ⟨w.heap.size + 1 + 1, 0, none⟩) 2 2) W hv hG0
  clear hW hI hJ HA
  go_wp2_with (fail)
  refine H0.mono ?_
  rintro e w1 ⟨r, rfl, hO, hb1⟩
  obtain ⟨A1, c1, rfl, _, _⟩ := OwnL.form hO
  unfold vdV
  dsimp only
  go_wp2_with (fail)
  go_ret
  exact ⟨rfl, hL.trans (((Ext.mk hb1).alloc _).below.mono hL.size)⟩
end Go.Proofs.YtknfdjnbndfboaaGreatDoor
