/- law 17: may, known. -/
import Derived.Test.YtknfdjnbndfboabGreatDoorProg
import Derived.Test.YtknfdjnbndfboabGreatDoorBase
import Derived.Test.YtknfdjnbndfboabGreatDoorHeldX
import Derived.Test.YtknfdjnbndfboabGreatDoorApp
import Derived.Test.YtknfdjnbndfboabGreatDoorTsk1
import Derived.Test.YtknfdjnbndfboabGreatDoorTsk3
import Derived.Test.YtknfdjnbndfboabGreatDoorTsk4
import Derived.Test.YtknfdjnbndfboabGreatDoorTskZ
import Derived.Test.YtknfdjnbndfboabGreatDoorTskP
import Derived.Test.YtknfdjnbndfboabGreatDoorTskA
import Derived.Test.YtknfdjnbndfboabGreatDoorTskO
import Derived.Test.YtknfdjnbndfboabGreatDoorSetO
import Derived.Test.YtknfdjnbndfboabGreatDoorRespS
import Derived.Test.YtknfdjnbndfboabGreatDoorResp
import Derived.Test.YtknfdjnbndfboabGreatDoorTolA
import Derived.Test.YtknfdjnbndfboabGreatDoorTolP
import Derived.Test.YtknfdjnbndfboabGreatDoorSprO
import Derived.Test.YtknfdjnbndfboabGreatDoorSprP
import Derived.Test.YtknfdjnbndfboabGreatDoorRaiO
import Derived.Test.YtknfdjnbndfboabGreatDoorRaiP
import Derived.Test.YtknfdjnbndfboabGreatDoorTskI
import Derived.Deep.Cut
import Derived.Lib.Hide
namespace Go.Proofs.YtknfdjnbndfboabGreatDoor
open Go.RowKit
attribute [local go_sem] setCell_twice ByteArray.toList_eq str_list Ext.alloc Ext.drew
set_option linter.unusedSimpArgs false
set_option maxRecDepth 100000
set_option maxHeartbeats 6400000
attribute [local irreducible] popN Calls

def mayT (t : Tsk) : Bool := !(decide (t.T < 3) || decide (300 < t.D))
def may14 (s : TSet) : Bool := !(decide (10 < s.tasks.length) || !allB s) && s.tasks.all mayT
theorem may17_any (s : TSet) (v : Value) (w : World) (hv : Tasks w v s.tasks) (hg : s.good) :
    Calls Tryz.prog 6 #[setV s v] w fun e w' => e = .returned (.bool (may14 s)) ∧ Below w.heap.size w w' := by
  have l1 := hv.len
  have hv0 := hv
  obtain ⟨A, c, rfl, hle, hcm, _⟩ := hv0
  unfold maxLen at hcm
  go_enter Tryz.func6, Tryz.ntmps6
  unfold setV
  go_upto_region 1 with (fail)
  have hL : Below w.heap.size w (w.alloc (.cells #[.int .i64 s.reload, (.slice A s.tasks.length c)] 24)) := (by repeat (first | exact Below.refl _ _ | assumption | refine Below.drew ?_ | refine Below.alloc ?_ (by first | (simp; done) | (simp; omega) | omega) _ | refine Below.setCell ?_ (by first | (simp; done) | (simp; omega) | omega) _)); have hB : Blk (w.alloc (.cells #[.int .i64 s.reload, (.slice A s.tasks.length c)] 24)) w.heap.size #[.int .i64 s.reload, (.slice A s.tasks.length c)] 24 := Blk.new _ _ _
  have hr := hv.ext ⟨hL⟩
  generalize w.alloc _ = W at hL hB hr ⊢
  have hc := hB.under
  refine wp_region_all' (S := Ext W) (Ext.refl W) (fun K hK => ?_); (repeat (first | (apply hO_and; (· rfl); (· rfl); (· rfl); (· rfl); simp only [Act.put, List.setIfInBounds_toArray, List.set_cons_zero, List.set_cons_succ]) | (apply hO_or; (· rfl); (· rfl); (· rfl); (· rfl); simp only [Act.put, List.setIfInBounds_toArray, List.set_cons_zero, List.set_cons_succ]) | (apply hO_off; (· rfl); (· rfl); simp only [Act.put, List.setIfInBounds_toArray, List.set_cons_zero, List.set_cons_succ]) | (apply hO_val; (· intro w hS; go_simp; with_reducible rfl); (· rfl); simp only [Act.put, List.setIfInBounds_toArray, List.set_cons_zero, List.set_cons_succ]) | (apply hO_call; (· rfl); (· intro w hS; go_simp; exact ⟨rfl, rfl⟩); (· intro w hS; exact callX hS (allR_any s _ _ (hr.ext hS) hg)); simp only [Act.put, List.setIfInBounds_toArray, List.set_cons_zero, List.set_cons_succ]) | (apply hO_if; (· rfl); (· rfl); (· intro hif w hS; go_simp; with_reducible rfl); simp only [Act.put, List.setIfInBounds_toArray, List.set_cons_zero, List.set_cons_succ]) | (apply hO_ifcall; (· rfl); (· rfl); (· intro hif w hS; go_simp; exact ⟨rfl, rfl⟩); (· intro hif w hS; exact callX hS (allR_any s _ _ (hr.ext hS) hg)); simp only [Act.put, List.setIfInBounds_toArray, List.set_cons_zero, List.set_cons_succ]))); refine hO_nil ?_; refine forget_range 4 8 (Nat.le_of_ble_eq_true rfl) (fun junk => ?_); simp only [List.take_succ_cons, List.take_zero, List.drop_succ_cons, List.drop_zero, List.cons_append, List.nil_append, fillF, Nat.reduceAdd]; refine hK _ ?_; clear hK K
  intro w1 hX1
  have hd : (decide ((10 : Int) < (s.tasks.length : Int)) || !allB s) = (decide (10 < s.tasks.length) || !allB s) := by
    congr 1
    rw [Bool.eq_iff_iff, decide_eq_true_eq, decide_eq_true_eq]
    omega
  have hm : may14 s = (!(decide (10 < s.tasks.length) || !allB s) && s.tasks.all mayT) := rfl
  cases hq : (decide (10 < s.tasks.length) || !allB s) with
  | true =>
    rw [hq] at hm hd
    have HM := Lib.hid hm
    clear hm hq
    first | rw [hd] | skip
    go_wp2_with (fail)
    go_ret
    exact ⟨by rw [HM.out]; rfl, hL.trans (hX1.below.mono hL.size)⟩
  | false =>
    rw [hq] at hm hd
    have HM := Lib.hid hm
    first | rw [hd] | skip
    clear hm hq hd
    go_wp2_with (fail)
    go_loopw [3] (fun i wr => ∃ k : Nat, k ≤ s.tasks.length ∧ i = .int .i64 k ∧ Hid ((s.tasks.take k).all mayT = true) ∧ Ext W wr) (fun i _ => s.tasks.length - (intOf i).toNat)
    case atStart => exact ⟨0, Nat.zero_le _, rfl, Lib.hid rfl, hX1⟩
    case round =>
      obtain ⟨k, hk, rfl, ht, hX⟩ := hrel
      have hcr := hc wr hX
      by_cases hlt : k < s.tasks.length
      · obtain ⟨b, o, r, rfl, hx⟩ := hr.at hlt
        have h1 : mayT s.tasks[k] = true → (s.tasks.take (k + 1)).all mayT = true := fun h => by
          rw [List.take_succ_eq_append_getElem hlt, List.all_append, ht.out]
          simp [h]
        have h2 : mayT s.tasks[k] = false → s.tasks.all mayT = false := fun h => by
          rw [List.all_eq_false]
          exact ⟨_, List.getElem_mem hlt, by rw [h]; simp⟩
        have H1 := Lib.hid h1
        have H2 := Lib.hid h2
        clear h1 h2
        have hmt : mayT s.tasks[k] = !(decide (s.tasks[k].T < 3) || decide (300 < s.tasks[k].D)) := rfl
        generalize s.tasks[k] = t at hx H1 H2 hmt
        obtain ⟨x0, x1, x2, x3, x4, x5, x6, x7, x8⟩ := hx.under
        go_upto_region 6 with (fail)
        refine wp_region_all' (S := Ext W) hX (fun K hK => ?_); (repeat (first | (apply hO_and; (· rfl); (· rfl); (· rfl); (· rfl); simp only [Act.put, List.setIfInBounds_toArray, List.set_cons_zero, List.set_cons_succ]) | (apply hO_or; (· rfl); (· rfl); (· rfl); (· rfl); simp only [Act.put, List.setIfInBounds_toArray, List.set_cons_zero, List.set_cons_succ]) | (apply hO_off; (· rfl); (· rfl); simp only [Act.put, List.setIfInBounds_toArray, List.set_cons_zero, List.set_cons_succ]) | (apply hO_val; (· intro w hS; go_simp; with_reducible rfl); (· rfl); simp only [Act.put, List.setIfInBounds_toArray, List.set_cons_zero, List.set_cons_succ]) | (apply hO_call; (· rfl); (· intro w hS; go_simp; exact ⟨rfl, rfl⟩); (· intro w hS; fail); simp only [Act.put, List.setIfInBounds_toArray, List.set_cons_zero, List.set_cons_succ]) | (apply hO_if; (· rfl); (· rfl); (· intro hif w hS; go_simp; with_reducible rfl); simp only [Act.put, List.setIfInBounds_toArray, List.set_cons_zero, List.set_cons_succ]) | (apply hO_ifcall; (· rfl); (· rfl); (· intro hif w hS; go_simp; exact ⟨rfl, rfl⟩); (· intro hif w hS; fail); simp only [Act.put, List.setIfInBounds_toArray, List.set_cons_zero, List.set_cons_succ]))); refine hO_nil ?_; refine forget_range 20 15 (Nat.le_of_ble_eq_true rfl) (fun junk => ?_); simp only [List.take_succ_cons, List.take_zero, List.drop_succ_cons, List.drop_zero, List.cons_append, List.nil_append, fillF, Nat.reduceAdd]; refine hK _ ?_; clear hK K
        intro w2 hX2
        cases hq : (decide (t.T < 3) || decide (300 < t.D)) with
        | true =>
          rw [hq] at hmt
          have H3 := Lib.hid (H2.out hmt)
          clear hmt hq
          go_wp2_with (fail)
          go_ret
          exact ⟨by rw [HM.out, H3.out]; rfl, hL.trans (hX2.below.mono hL.size)⟩
        | false =>
          rw [hq] at hmt
          have H3 := Lib.hid (H1.out hmt)
          clear hmt hq
          go_wp2_with (fail)
          exact ⟨⟨k + 1, hlt, rfl, H3, hX2⟩, by simp [intOf]; omega⟩
      · have hke : k = s.tasks.length := Nat.le_antisymm hk (Nat.not_lt.1 hlt)
        have h3 := ht.out
        rw [hke, List.take_length] at h3
        have H3 := Lib.hid h3
        clear h3
        go_wp2_with (fail)
        go_ret
        exact ⟨by rw [HM.out, H3.out]; rfl, hL.trans (hX.below.mono hL.size)⟩
/-- a row of one task -/
theorem tasks_one {w : World} {g : Nat} {t : Tsk} {r : Value} {e : TypeId} (hT : Blk w g #[.string t.name, .int .i64 t.T, .int .i64 t.D, .int .i64 t.mode, .int .i64 t.q, .int .i64 t.theta, r, .int .u64 t.ecb, .int .u64 t.ucb] e) (hI : Ints w r t.regs) : Tasks w (.slice (some ⟨g, 0, none⟩) 1 1) [t] := by
  refine ⟨_, 1, rfl, Nat.le_refl _, by unfold maxLen; decide, fun _ => ⟨g, 0, rfl, fun i hi => ?_⟩⟩
  have hi0 : i = 0 := by simpa using hi
  subst hi0
  exact ⟨r, hI, hT.cell 0, hT.cell 1, hT.cell 2, hT.cell 3, hT.cell 4, hT.cell 5, hT.cell 6, hT.cell 7, hT.cell 8⟩
theorem ints_blk {w : World} {g : Nat} {xs : List Int} {e : TypeId} (hB : Blk w g (xs.map (Value.int .i64)).toArray e) (hl : xs.length ≤ 1000) : Ints w (.slice (some ⟨g, 0, none⟩) xs.length xs.length) xs := by
  refine ⟨_, xs.length, rfl, Nat.le_refl _, by unfold maxLen; omega, fun _ => ⟨g, 0, rfl, fun i hi => ?_⟩⟩
  rw [hB.cell]
  simp [hi]
theorem may14_all {s : TSet} (h : may14 s = true) : allB s = true := by
  unfold may14 at h
  simp only [Bool.and_eq_true, Bool.not_eq_true', Bool.or_eq_false_iff, Bool.not_eq_false'] at h
  exact h.1.2
theorem may14_D {s : TSet} (h : may14 s = true) (t : Tsk) (ht : t ∈ s.tasks) : 3 ≤ t.T ∧ t.D ≤ 300 := by
  unfold may14 at h
  simp only [Bool.and_eq_true, List.all_eq_true] at h
  have := h.2 t ht
  unfold mayT at this
  simp only [Bool.not_eq_true', Bool.or_eq_false_iff, decide_eq_false_iff_not] at this
  omega
def kT17 : Tsk := ⟨str [97], 5, 5, 0, 0, 0, [2, 1], 0, 0⟩
def kS17 : TSet := ⟨0, [kT17]⟩
theorem kS17_all : allB kS17 = true := by decide +kernel
theorem kS17_fit : kS17.fit := by
  refine ⟨by decide, by decide, fun t ht => ?_⟩
  obtain rfl : t = kT17 := by simpa [kS17] using ht
  refine ⟨by decide, by decide, by decide, by decide, by decide, by decide, by decide, by decide, by decide, fun n hn => ?_⟩
  have hn2 : n = 2 ∨ n = 1 := by simpa [kT17] using hn
  rcases hn2 with rfl | rfl <;> decide
theorem kS17_tol : tolS kS17 = some [2] := by
  unfold tolS
  rw [if_pos kS17_all]
  have h := tolO_first (fine_of kS17_all kS17_fit) (show 0 < kS17.tasks.length by decide)
  have h2 : kS17.tasks[0].D - workL kS17.tasks[0].regs = 2 := by decide +kernel
  rw [h2] at h
  exact tolL_step kS17 (n := 0) (l := []) rfl h
theorem kS17_q : raiseQ kS17 = some [0] := by
  unfold raiseQ
  rw [kS17_tol]
  decide +kernel
theorem kS17_put : raiseS kS17 = ⟨0, [threshT kT17 0]⟩ := by
  unfold raiseS
  rw [kS17_q]
  rfl
theorem known17_any (w : World) (hG : GOK w) :
    Calls Tryz.prog 13 #[] w fun e w' => e = .returned (.bool true) ∧ Below w.heap.size w w' := by
  have HA := Lib.hid fun (v : Value) (W : World) (hv : Tasks W v kS17.tasks) (h : GOK W) => raiseOf_any kS17 v W hv kS17_fit h
  have HP := Lib.hid fun (v : Value) (W : World) (hv : Tasks W v kS17.tasks) (h : GOK W) => raisePut_any kS17 v W hv kS17_fit h
  rw [kS17_q] at HA HP
  rw [kS17_put] at HP
  go_enter Tryz.func13, Tryz.ntmps13
  go_upto_region 2 with (fail)
  generalize hW : World.alloc _ (.cells _ 24) = W
  have hL : Below w.heap.size w W := by rw [← hW]; exact (by repeat (first | exact Below.refl _ _ | assumption | refine Below.drew ?_ | refine Below.alloc ?_ (by first | (simp; done) | (simp; omega) | omega) _ | refine Below.setCell ?_ (by first | (simp; done) | (simp; omega) | omega) _))
  have hB : Blk W (w.heap.size + 1 + 1) #[.int .i64 0, .slice (some ⟨w.heap.size + 1, 0, none⟩) 1 1] 24 := by rw [← hW]; exact Blk.new_at _ _ _ _ (by simp)
  have hT : Blk W (w.heap.size + 1) #[.string kT17.name, .int .i64 kT17.T, .int .i64 kT17.D, .int .i64 kT17.mode, .int .i64 kT17.q, .int .i64 kT17.theta, (.slice (some ⟨w.heap.size, 0, none⟩) 2 2), .int .u64 kT17.ecb, .int .u64 kT17.ucb] 41 := by rw [← hW]; exact (Blk.new_at _ _ _ _ (by simp)).alloc _
  have hI : Blk W w.heap.size ([(2 : Int), 1].map (Value.int .i64)).toArray 2 := by rw [← hW]; exact ((Blk.new _ _ _).alloc _).alloc _
  have hv : Tasks W (.slice (some ⟨w.heap.size + 1, 0, none⟩) 1 1) kS17.tasks := tasks_one hT (ints_blk (xs := [2, 1]) hI (by decide))
  have hc := hB.under
  have hG0 := hG.below hL
  clear hW hT hI
  have hcell := hc W (Ext.refl W)
  have hA : Calls Tryz.prog 7 #[setV kS17 (.slice (some ⟨w.heap.size + 1, 0, none⟩) 1 1)] W fun e w' => ∃ v', e = .returned (.tuple #[v', .bool true]) ∧ RowP w' W.heap.size v' [0] ∧ Below W.heap.size W w' := HA.out _ W hv hG0
  go_wp2_with (fail)
  refine hA.mono ?_
  rintro e w1 ⟨v1, rfl, hO1, hb1⟩
  obtain ⟨A1, c1, rfl, _, _⟩ := OwnL.form hO1
  have hI1 : Ints w1 (.slice A1 1 c1) [0] := hO1.ints
  have hX1 : Ext W w1 := ⟨hb1⟩
  have hcell1 := hc w1 hX1
  clear hcell hO1
  have hP : Calls Tryz.prog 9 #[setV kS17 (.slice (some ⟨w.heap.size + 1, 0, none⟩) 1 1)] w1 fun e w' => ∃ v' ps, e = .returned (.tuple #[setV ⟨0, [threshT kT17 0]⟩ v', .bool true]) ∧ PutOwn w' w1.heap.size v' ps ∧ ps.map (·.1) = [threshT kT17 0] ∧ Below w1.heap.size w1 w' := HP.out _ w1 (hv.ext hX1) (hG0.below hb1)
  go_wp2_with (fail)
  refine hP.mono ?_
  rintro e w2 ⟨v2, ps, rfl, hP2, hps, hb2⟩
  have hT2 : Tasks w2 v2 [threshT kT17 0] := hps ▸ hP2.tasks
  have hI2 := hI1.ext ⟨hb2⟩
  have hX2 := hX1.call hb2
  clear hcell1 hP2 hps
  obtain ⟨A2, c2, rfl, _, _, _⟩ := id hT2
  obtain ⟨b, o, r, rfl, hx⟩ := hT2.at (k := 0) (by decide)
  obtain ⟨x0, x1, x2, x3, x4, x5, x6, x7, x8⟩ := hx.under
  have x3' : ∀ w', Ext w2 w' → w'.cell? ⟨b, o + 3, none⟩ = some (.int .i64 2) := x3
  clear x0 x1 x2 x3 x4 x5 x6 x7 x8 hx
  unfold setV
  dsimp only
  go_upto_region 4 with (fail)
  have hX3 := (Ext.refl w2).alloc (.cells #[.int .i64 0, .slice (some ⟨b, o, none⟩) [threshT kT17 0].length c2] 24)
  have hBx : Blk (w2.alloc (.cells #[.int .i64 0, .slice (some ⟨b, o, none⟩) [threshT kT17 0].length c2] 24)) w2.heap.size #[.int .i64 0, .slice (some ⟨b, o, none⟩) [threshT kT17 0].length c2] 24 := Blk.new _ _ _
  rw [show ([threshT kT17 0] : List Tsk).length = 1 from rfl] at hX3 hBx
  have x3 := fun w' h => x3' w' (hX3.trans h)
  have hI3 := hI2.ext hX3
  clear x3'
  generalize w2.alloc _ = w3 at hX3 hBx x3 hI3 ⊢
  have hcx3 := hBx.cell
  go_wp2_with (fail)
  have hX4 := (Ext.refl w3).alloc (.cells #[.int .i64 0] 3)
  have hB4 : Blk (w3.alloc (.cells #[.int .i64 0] 3)) w3.heap.size ([(0 : Int)].map (Value.int .i64)).toArray 3 := Blk.new _ _ _
  refine (ints2_any _ _ [0] [0] _ (hI3.ext hX4) (ints_blk (xs := [0]) hB4 (by decide))).mono ?_
  rintro e w5 ⟨rfl, hb5⟩
  have hX5 : Ext w3 w5 := hX4.call hb5
  have hcx5 := (hBx.ext hX5).cell
  have x35 := x3 w5 hX5
  clear hcx3
  go_wp2_with (fail)
  go_ret
  exact ⟨by first | rfl | (simp; done), hL.trans ((hX2.trans (hX3.trans hX5)).below.mono hL.size)⟩
end Go.Proofs.YtknfdjnbndfboabGreatDoor
