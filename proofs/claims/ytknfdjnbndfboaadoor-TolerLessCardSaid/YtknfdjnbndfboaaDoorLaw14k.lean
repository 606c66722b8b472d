/- law 14: may, known. -/
import Derived.Test.YtknfdjnbndfboaaDoorProg
import Derived.Test.YtknfdjnbndfboaaDoorBase
import Derived.Test.YtknfdjnbndfboaaDoorHeldX
import Derived.Test.YtknfdjnbndfboaaDoorApp
import Derived.Test.YtknfdjnbndfboaaDoorTsk1
import Derived.Test.YtknfdjnbndfboaaDoorTsk3
import Derived.Test.YtknfdjnbndfboaaDoorTsk4
import Derived.Test.YtknfdjnbndfboaaDoorTskZ
import Derived.Test.YtknfdjnbndfboaaDoorTskP
import Derived.Test.YtknfdjnbndfboaaDoorTskA
import Derived.Test.YtknfdjnbndfboaaDoorTskO
import Derived.Test.YtknfdjnbndfboaaDoorSetO
import Derived.Test.YtknfdjnbndfboaaDoorRespS
import Derived.Test.YtknfdjnbndfboaaDoorResp
import Derived.Test.YtknfdjnbndfboaaDoorTolA
import Derived.Test.YtknfdjnbndfboaaDoorTolI
import Derived.Test.YtknfdjnbndfboaaDoorTolP
import Derived.Deep.Cut
import Derived.Lib.Hide
namespace Go.Proofs.YtknfdjnbndfboaaDoor
open Go.RowKit
attribute [local go_sem] setCell_twice ByteArray.toList_eq str_list Ext.alloc Ext.drew
set_option linter.unusedSimpArgs false
set_option maxRecDepth 100000
set_option maxHeartbeats 6400000
attribute [local irreducible] popN

def mayT (t : Tsk) : Bool := !(decide (t.T < 3) || decide (300 < t.D))
def may14 (s : TSet) : Bool := !(decide (10 < s.tasks.length) || !allB s) && s.tasks.all mayT
theorem may14_any (s : TSet) (v : Value) (w : World) (hv : Tasks w v s.tasks) (hg : s.good) :
    Calls Tryd.prog 10 #[setV s v] w fun e w' => e = .returned (.bool (may14 s)) ∧ Below w.heap.size w w' := by
  have l1 := hv.len
  have hv0 := hv
  obtain ⟨A, c, rfl, hle, hcm, _⟩ := hv0
  unfold maxLen at hcm
  go_enter Tryd.func10, Tryd.ntmps10
  unfold setV
  go_upto_region 1 with (fail)
  have hL : Below w.heap.size w (w.alloc (.cells #[.int .i64 s.reload, (.slice A s.tasks.length c)] 24)) := (by repeat (first | exact Below.refl _ _ | assumption | refine Below.drew ?_ | refine Below.alloc ?_ (by first | (simp; done) | (simp; omega) | omega) _ | refine Below.setCell ?_ (by first | (simp; done) | (simp; omega) | omega) _)); have hB : Blk (w.alloc (.cells #[.int .i64 s.reload, (.slice A s.tasks.length c)] 24)) w.heap.size #[.int .i64 s.reload, (.slice A s.tasks.length c)] 24 := Blk.new _ _ _
  have hr := hv.ext ⟨hL⟩
  generalize w.alloc _ = W at hL hB hr ⊢
  have hc := hB.under
  refine wp_region_all' (S := Ext W) (Ext.refl W) (fun K hK => ?_); (repeat (first | (apply hO_and; (· rfl); (· rfl); (· rfl); (· rfl); simp only [Act.put, List.setIfInBounds_toArray, List.set_cons_zero, List.set_cons_succ]) | (apply hO_or; (· rfl); (· rfl); (· rfl); (· rfl); simp only [Act.put, List.setIfInBounds_toArray, List.set_cons_zero, List.set_cons_succ]) | (apply hO_off; (· rfl); (· rfl); simp only [Act.put, List.setIfInBounds_toArray, List.set_cons_zero, List.set_cons_succ]) | (apply hO_val; (· intro w hS; go_simp; with_reducible rfl); (· rfl); simp only [Act.put, List.setIfInBounds_toArray, List.set_cons_zero, List.set_cons_succ]) | (apply hO_call; (· rfl); (· intro w hS; go_simp; exact ⟨rfl, rfl⟩); (· intro w hS; exact callX hS (allR_any s _ _ (hr.ext hS) hg)); simp only [Act.put, List.setIfInBounds_toArray, List.set_cons_zero, List.set_cons_succ]) | (apply hO_if; (· rfl); (· rfl); (· intro hif w hS; go_simp; with_reducible rfl); simp only [Act.put, List.setIfInBounds_toArray, List.set_cons_zero, List.set_cons_succ]) | (apply hO_ifcall; (· rfl); (· rfl); (· intro hif w hS; go_simp; exact ⟨rfl, rfl⟩); (· intro hif w hS; exact callX hS (allR_any s _ _ (hr.ext hS) hg)); simp only [Act.put, List.setIfInBounds_toArray, List.set_cons_zero, List.set_cons_succ]))); refine hO_nil ?_; refine forget_range 4 8 (Nat.le_of_ble_eq_true rfl) (fun junk => ?_); simp only [List.take_succ_cons, List.take_zero, List.drop_succ_cons, List.drop_zero, List.cons_append, List.nil_append, fillF, Nat.reduceAdd]; refine hK _ ?_; clear hK K
  intro w1 hX1
  have hd : (decide ((10 : Int) < (s.tasks.length : Int)) || !allB s) = (decide (10 < s.tasks.length) || !allB s) := by
    congr 1
    rw [Bool.eq_iff_iff, decide_eq_true_eq, decide_eq_true_eq]
    omega
  have hm : may14 s = (!(decide (10 < s.tasks.length) || !allB s) && s.tasks.all mayT) := rfl
  cases hq : (decide (10 < s.tasks.length) || !allB s) with
  | true =>
    rw [hq] at hm hd
    have HM := Lib.hid hm
    clear hm hq
    first | rw [hd] | skip
    go_wp2_with (fail)
    go_ret
    exact ⟨by rw [HM.out]; rfl, hL.trans (hX1.below.mono hL.size)⟩
  | false =>
    rw [hq] at hm hd
    have HM := Lib.hid hm
    first | rw [hd] | skip
    clear hm hq hd
    go_wp2_with (fail)
    go_loopw [3] (fun i wr => ∃ k : Nat, k ≤ s.tasks.length ∧ i = .int .i64 k ∧ Hid ((s.tasks.take k).all mayT = true) ∧ Ext W wr) (fun i _ => s.tasks.length - (intOf i).toNat)
    case atStart => exact ⟨0, Nat.zero_le _, rfl, Lib.hid rfl, hX1⟩
    case round =>
      obtain ⟨k, hk, rfl, ht, hX⟩ := hrel
      have hcr := hc wr hX
      by_cases hlt : k < s.tasks.length
      · obtain ⟨b, o, r, rfl, hx⟩ := hr.at hlt
        have h1 : mayT s.tasks[k] = true → (s.tasks.take (k + 1)).all mayT = true := fun h => by
          rw [List.take_succ_eq_append_getElem hlt, List.all_append, ht.out]
          simp [h]
        have h2 : mayT s.tasks[k] = false → s.tasks.all mayT = false := fun h => by
          rw [List.all_eq_false]
          exact ⟨_, List.getElem_mem hlt, by rw [h]; simp⟩
        have H1 := Lib.hid h1
        have H2 := Lib.hid h2
        clear h1 h2
        have hmt : mayT s.tasks[k] = !(decide (s.tasks[k].T < 3) || decide (300 < s.tasks[k].D)) := rfl
        generalize s.tasks[k] = t at hx H1 H2 hmt
        obtain ⟨x0, x1, x2, x3, x4, x5, x6, x7, x8⟩ := hx.under
        go_upto_region 6 with (fail)
        refine wp_region_all' (S := Ext W) hX (fun K hK => ?_); (repeat (first | (apply hO_and; (· rfl); (· rfl); (· rfl); (· rfl); simp only [Act.put, List.setIfInBounds_toArray, List.set_cons_zero, List.set_cons_succ]) | (apply hO_or; (· rfl); (· rfl); (· rfl); (· rfl); simp only [Act.put, List.setIfInBounds_toArray, List.set_cons_zero, List.set_cons_succ]) | (apply hO_off; (· rfl); (· rfl); simp only [Act.put, List.setIfInBounds_toArray, List.set_cons_zero, List.set_cons_succ]) | (apply hO_val; (· intro w hS; go_simp; with_reducible rfl); (· rfl); simp only [Act.put, List.setIfInBounds_toArray, List.set_cons_zero, List.set_cons_succ]) | (apply hO_call; (· rfl); (· intro w hS; go_simp; exact ⟨rfl, rfl⟩); (· intro w hS; fail); simp only [Act.put, List.setIfInBounds_toArray, List.set_cons_zero, List.set_cons_succ]) | (apply hO_if; (· rfl); (· rfl); (· intro hif w hS; go_simp; with_reducible rfl); simp only [Act.put, List.setIfInBounds_toArray, List.set_cons_zero, List.set_cons_succ]) | (apply hO_ifcall; (· rfl); (· rfl); (· intro hif w hS; go_simp; exact ⟨rfl, rfl⟩); (· intro hif w hS; fail); simp only [Act.put, List.setIfInBounds_toArray, List.set_cons_zero, List.set_cons_succ]))); refine hO_nil ?_; refine forget_range 20 15 (Nat.le_of_ble_eq_true rfl) (fun junk => ?_); simp only [List.take_succ_cons, List.take_zero, List.drop_succ_cons, List.drop_zero, List.cons_append, List.nil_append, fillF, Nat.reduceAdd]; refine hK _ ?_; clear hK K
        intro w2 hX2
        cases hq : (decide (t.T < 3) || decide (300 < t.D)) with
        | true =>
          rw [hq] at hmt
          have H3 := Lib.hid (H2.out hmt)
          clear hmt hq
          go_wp2_with (fail)
          go_ret
          exact ⟨by rw [HM.out, H3.out]; rfl, hL.trans (hX2.below.mono hL.size)⟩
        | false =>
          rw [hq] at hmt
          have H3 := Lib.hid (H1.out hmt)
          clear hmt hq
          go_wp2_with (fail)
          exact ⟨⟨k + 1, hlt, rfl, H3, hX2⟩, by simp [intOf]; omega⟩
      · have hke : k = s.tasks.length := Nat.le_antisymm hk (Nat.not_lt.1 hlt)
        have h3 := ht.out
        rw [hke, List.take_length] at h3
        have H3 := Lib.hid h3
        clear h3
        go_wp2_with (fail)
        go_ret
        exact ⟨by rw [HM.out, H3.out]; rfl, hL.trans (hX.below.mono hL.size)⟩
/-- a row of one task -/
theorem tasks_one {w : World} {g : Nat} {t : Tsk} {r : Value} {e : TypeId} (hT : Blk w g #[.string t.name, .int .i64 t.T, .int .i64 t.D, .int .i64 t.mode, .int .i64 t.q, .int .i64 t.theta, r, .int .u64 t.ecb, .int .u64 t.ucb] e) (hI : Ints w r t.regs) : Tasks w (.slice (some ⟨g, 0, none⟩) 1 1) [t] := by
  refine ⟨_, 1, rfl, Nat.le_refl _, by unfold maxLen; decide, fun _ => ⟨g, 0, rfl, fun i hi => ?_⟩⟩
  have hi0 : i = 0 := by simpa using hi
  subst hi0
  exact ⟨r, hI, hT.cell 0, hT.cell 1, hT.cell 2, hT.cell 3, hT.cell 4, hT.cell 5, hT.cell 6, hT.cell 7, hT.cell 8⟩
theorem ints_blk {w : World} {g : Nat} {xs : List Int} {e : TypeId} (hB : Blk w g (xs.map (Value.int .i64)).toArray e) (hl : xs.length ≤ 1000) : Ints w (.slice (some ⟨g, 0, none⟩) xs.length xs.length) xs := by
  refine ⟨_, xs.length, rfl, Nat.le_refl _, by unfold maxLen; omega, fun _ => ⟨g, 0, rfl, fun i hi => ?_⟩⟩
  rw [hB.cell]
  simp [hi]
def kT14 : Tsk := ⟨str [97], 5, 5, 0, 0, 0, [2], 0, 0⟩
def kS14 : TSet := ⟨0, [kT14]⟩
theorem kS14_all : allB kS14 = true := by decide +kernel
theorem kS14_fit : kS14.fit := by
  refine ⟨by decide, by decide, fun t ht => ?_⟩
  obtain rfl : t = kT14 := by simpa [kS14] using ht
  refine ⟨by decide, by decide, by decide, by decide, by decide, by decide, by decide, by decide, by decide, fun n hn => ?_⟩
  obtain rfl : n = 2 := by simpa [kT14] using hn
  decide
theorem kS14_0 : tolI kS14 0 = some 3 := by
  unfold tolI
  rw [if_pos ⟨by decide, kS14_all⟩]
  have := tolO_first (fine_of kS14_all kS14_fit) (show 0 < kS14.tasks.length by decide)
  rw [show (0 : Int).toNat = 0 from rfl, this]
  decide +kernel
theorem kS14_1 : tolI kS14 1 = none := by
  unfold tolI
  rw [if_neg (fun h => absurd h.1 (by decide))]
theorem known14_any (w : World) (hG : GOK w) :
    Calls Tryd.prog 13 #[] w fun e w' => e = .returned (.bool true) ∧ Below w.heap.size w w' := by
  have HA := Lib.hid fun (v : Value) (i : Int) (W : World) (hv : Tasks W v kS14.tasks) (h : GOK W) => tolerOf_any kS14 v i W hv kS14_fit h
  go_enter Tryd.func13, Tryd.ntmps13
  go_upto_region 2 with (fail)
  generalize hW : World.alloc _ (.cells _ 24) = W
  have hL : Below w.heap.size w W := by rw [← hW]; exact (by repeat (first | exact Below.refl _ _ | assumption | refine Below.drew ?_ | refine Below.alloc ?_ (by first | (simp; done) | (simp; omega) | omega) _ | refine Below.setCell ?_ (by first | (simp; done) | (simp; omega) | omega) _))
  have hB : Blk W (w.heap.size + 1 + 1) #[.int .i64 0, .slice (some ⟨w.heap.size + 1, 0, none⟩) 1 1] 24 := by rw [← hW]; exact Blk.new_at _ _ _ _ (by simp)
  have hT : Blk W (w.heap.size + 1) #[.string kT14.name, .int .i64 kT14.T, .int .i64 kT14.D, .int .i64 kT14.mode, .int .i64 kT14.q, .int .i64 kT14.theta, (.slice (some ⟨w.heap.size, 0, none⟩) 1 1), .int .u64 kT14.ecb, .int .u64 kT14.ucb] 34 := by rw [← hW]; exact (Blk.new_at _ _ _ _ (by simp)).alloc _
  have hI : Blk W w.heap.size ([(2 : Int)].map (Value.int .i64)).toArray 2 := by rw [← hW]; exact ((Blk.new _ _ _).alloc _).alloc _
  have hv : Tasks W (.slice (some ⟨w.heap.size + 1, 0, none⟩) 1 1) kS14.tasks := tasks_one hT (ints_blk (xs := [2]) hI (by decide))
  have hc := hB.under
  have hG0 := hG.below hL
  have H0 := HA.out (.slice (some ⟨w.heap.size + 1, 0, none⟩) 1 1) 0
  have H1 := HA.out (.slice (some ⟨w.heap.size + 1, 0, none⟩) 1 1) 1
  rw [kS14_0] at H0
  rw [kS14_1] at H1
  have H0 := Lib.hid H0
  have H1 := Lib.hid H1
  clear hW hT hI HA
  unfold optN at H0 H1
  have hcell := hc W (Ext.refl W)
  go_wp2_with (fail)
  refine (H0.out W hv hG0).mono ?_
  rintro e w1 ⟨rfl, hb1⟩
  have hX1 : Ext W w1 := ⟨hb1⟩
  have hcell1 := hc w1 hX1
  clear hcell
  go_wp2_with (fail)
  refine (H1.out w1 (hv.ext hX1) (hG0.below hb1)).mono ?_
  rintro e w2 ⟨rfl, hb2⟩
  have hX2 := hX1.call hb2
  go_wp2_with (fail)
  go_ret
  exact ⟨rfl, hL.trans (hX2.below.mono hL.size)⟩
end Go.Proofs.YtknfdjnbndfboaaDoor
