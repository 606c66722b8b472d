/- ref8.Own, ref9: Whole, Of, Most; ref12.Of. -/
import Derived.Test.YtknfdjnbndfboabGreatDoorProg
import Derived.Test.YtknfdjnbndfboabGreatDoorBase
import Derived.Test.YtknfdjnbndfboabGreatDoorHeldX
import Derived.Test.YtknfdjnbndfboabGreatDoorApp
import Derived.Test.YtknfdjnbndfboabGreatDoorTsk1
import Derived.Test.YtknfdjnbndfboabGreatDoorTsk3
import Derived.Test.YtknfdjnbndfboabGreatDoorTskZ
import Derived.Test.YtknfdjnbndfboabGreatDoorTskP
import Derived.Test.YtknfdjnbndfboabGreatDoorNumP
import Derived.Test.YtknfdjnbndfboabGreatDoorBit
import Derived.Test.YtknfdjnbndfboabGreatDoorAgain
import Derived.Test.YtknfdjnbndfboabGreatDoorRef8
import Derived.Test.YtknfdjnbndfboabGreatDoorRespS
import Derived.Test.YtknfdjnbndfboabGreatDoorResp
import Derived.Test.YtknfdjnbndfboabGreatDoorBlkO
import Derived.Deep.Cut
import Derived.Lib.Hide
import Derived.Laws.Bits64b
namespace Go.Proofs.YtknfdjnbndfboabGreatDoor
open Go.RowKit
attribute [local go_sem] setCell_twice ByteArray.toList_eq str_list Ext.alloc Ext.drew
set_option linter.unusedSimpArgs false
set_option maxRecDepth 100000
set_option maxHeartbeats 6400000
attribute [local irreducible] popN

theorem own8_any (s : TSet) (v : Value) (k : Nat) (w : World) (hv : Tasks w v s.tasks) (hs : Fine s) (hk : k < s.tasks.length) :
    Calls Tryz.prog 33 #[setV s v, .int .i64 k] w fun e w' => e = .returned (.int .i64 (ownZ s s.tasks[k])) ∧ Below w.heap.size w w' := by
  have l1 := hv.len
  have hv0 := hv
  obtain ⟨A, c, rfl, hle, hcm, _⟩ := hv0
  go_enter Tryz.func33, Tryz.ntmps33
  unfold setV
  go_upto_region 1 with (fail)
  have hL : Below w.heap.size w (w.alloc (.cells #[.int .i64 s.reload, (.slice A s.tasks.length c)] 24)) := (by repeat (first | exact Below.refl _ _ | assumption | refine Below.drew ?_ | refine Below.alloc ?_ (by first | (simp; done) | (simp; omega) | omega) _ | refine Below.setCell ?_ (by first | (simp; done) | (simp; omega) | omega) _)); have hB : Blk (w.alloc (.cells #[.int .i64 s.reload, (.slice A s.tasks.length c)] 24)) w.heap.size #[.int .i64 s.reload, (.slice A s.tasks.length c)] 24 := Blk.new _ _ _
  have hr := hv.ext ⟨hL⟩
  generalize w.alloc _ = W at hL hB hr ⊢
  have hc := hB.under
  refine wp_region_all' (S := Ext W) (Ext.refl W) (fun K hK => ?_); (repeat (first | (apply hO_and; (· rfl); (· rfl); (· rfl); (· rfl); simp only [Act.put, List.setIfInBounds_toArray, List.set_cons_zero, List.set_cons_succ]) | (apply hO_or; (· rfl); (· rfl); (· rfl); (· rfl); simp only [Act.put, List.setIfInBounds_toArray, List.set_cons_zero, List.set_cons_succ]) | (apply hO_off; (· rfl); (· rfl); simp only [Act.put, List.setIfInBounds_toArray, List.set_cons_zero, List.set_cons_succ]) | (apply hO_val; (· intro w hS; go_simp; with_reducible rfl); (· rfl); simp only [Act.put, List.setIfInBounds_toArray, List.set_cons_zero, List.set_cons_succ]) | (apply hO_call; (· rfl); (· intro w hS; go_simp; exact ⟨rfl, rfl⟩); (· intro w hS; fail); simp only [Act.put, List.setIfInBounds_toArray, List.set_cons_zero, List.set_cons_succ]) | (apply hO_if; (· rfl); (· rfl); (· intro hif w hS; go_simp; with_reducible rfl); simp only [Act.put, List.setIfInBounds_toArray, List.set_cons_zero, List.set_cons_succ]) | (apply hO_ifcall; (· rfl); (· rfl); (· intro hif w hS; go_simp; exact ⟨rfl, rfl⟩); (· intro hif w hS; fail); simp only [Act.put, List.setIfInBounds_toArray, List.set_cons_zero, List.set_cons_succ]))); refine hO_nil ?_; refine forget_range 5 8 (Nat.le_of_ble_eq_true rfl) (fun junk => ?_); simp only [List.take_succ_cons, List.take_zero, List.drop_succ_cons, List.drop_zero, List.cons_append, List.nil_append, fillF, Nat.reduceAdd]; refine hK _ ?_; clear hK K
  intro w1 hX1
  have hd : (decide ((k : Int) < 0) || decide (s.tasks.length ≤ k)) = false := by simp; omega
  rw [hd]
  obtain ⟨b, o, r, rfl, hx⟩ := hr.at hk
  have hu := (hs.bits _ (List.getElem_mem hk)).1
  have how := own_range hs s.tasks[k]
  have hoz : ownZ s s.tasks[k] = s.reload * (popN 64 s.tasks[k].ucb.toNat : Nat) := rfl
  generalize hge : ownZ s s.tasks[k] = oz at how hoz
  have HGE := Lib.hid hge
  clear hge
  generalize s.tasks[k] = t at hx hu hoz
  obtain ⟨n0, hn0⟩ := Int.eq_ofNat_of_zero_le hu.1
  obtain ⟨x0, x1, x2, x3, x4, x5, x6, x7, x8⟩ := hx.under
  rw [hn0] at x8 hoz
  rw [Int.toNat_natCast] at hoz
  have hcn := fun W => count2_any n0 (by omega) W
  generalize popN 64 n0 = pc at hcn hoz
  have hwr : IntKind.i64.wrap (s.reload * (pc : Int)) = oz := by rw [← hoz, IntKind.wrap_i64]; omega
  clear hoz hd
  go_upto_region 3 with (fail)
  refine wp_region_all (S := Ext W) (by kernel_rfl) (by kernel_rfl) hX1.drew (fun K hK => ?_); (repeat (first | (apply hO_and; (· rfl); (· rfl); (· rfl); (· rfl); simp only [Act.put, List.setIfInBounds_toArray, List.set_cons_zero, List.set_cons_succ]) | (apply hO_or; (· rfl); (· rfl); (· rfl); (· rfl); simp only [Act.put, List.setIfInBounds_toArray, List.set_cons_zero, List.set_cons_succ]) | (apply hO_off; (· rfl); (· rfl); simp only [Act.put, List.setIfInBounds_toArray, List.set_cons_zero, List.set_cons_succ]) | (apply hO_val; (· intro w hS; go_simp; with_reducible rfl); (· rfl); simp only [Act.put, List.setIfInBounds_toArray, List.set_cons_zero, List.set_cons_succ]) | (apply hO_call; (· rfl); (· intro w hS; go_simp; exact ⟨rfl, rfl⟩); (· intro w hS; exact callX hS (hcn _)); simp only [Act.put, List.setIfInBounds_toArray, List.set_cons_zero, List.set_cons_succ]) | (apply hO_if; (· rfl); (· rfl); (· intro hif w hS; go_simp; with_reducible rfl); simp only [Act.put, List.setIfInBounds_toArray, List.set_cons_zero, List.set_cons_succ]) | (apply hO_ifcall; (· rfl); (· rfl); (· intro hif w hS; go_simp; exact ⟨rfl, rfl⟩); (· intro hif w hS; exact callX hS (hcn _)); simp only [Act.put, List.setIfInBounds_toArray, List.set_cons_zero, List.set_cons_succ]))); refine hO_nil ?_; refine hK _ ?_; clear hK K
  intro w2 hX2
  go_wp2_with (fail)
  go_ret
  exact ⟨by rw [HGE.out]; rfl, hL.trans (hX2.below.mono hL.size)⟩
theorem whole9_any (s : TSet) (v : Value) (k : Nat) (w : World) (hv : Tasks w v s.tasks) (hs : Fine s) (hk : k < s.tasks.length) :
    Calls Tryz.prog 21 #[setV s v, .int .i64 k] w fun e w' => e = .returned (.int .i64 (wholeZ s s.tasks[k])) ∧ Below w.heap.size w w' := by
  have l1 := hv.len
  have hv0 := hv
  obtain ⟨A, c, rfl, hle, hcm, _⟩ := hv0
  go_enter Tryz.func21, Tryz.ntmps21
  unfold setV
  go_upto_region 1 with (fail)
  have hL : Below w.heap.size w (w.alloc (.cells #[.int .i64 s.reload, (.slice A s.tasks.length c)] 24)) := (by repeat (first | exact Below.refl _ _ | assumption | refine Below.drew ?_ | refine Below.alloc ?_ (by first | (simp; done) | (simp; omega) | omega) _ | refine Below.setCell ?_ (by first | (simp; done) | (simp; omega) | omega) _)); have hB : Blk (w.alloc (.cells #[.int .i64 s.reload, (.slice A s.tasks.length c)] 24)) w.heap.size #[.int .i64 s.reload, (.slice A s.tasks.length c)] 24 := Blk.new _ _ _
  have hr := hv.ext ⟨hL⟩
  generalize w.alloc _ = W at hL hB hr ⊢
  have hc := hB.under
  have HO := Lib.hid fun W' (h : Ext W W') => own8_any s (.slice A s.tasks.length c) k W' (hr.ext h) hs hk
  have HW := Lib.hid fun W' (h : Ext W W') => work8_any s (.slice A s.tasks.length c) k W' (hr.ext h) hk
  have how := own_range hs s.tasks[k]
  have hft := hs.at k hk
  have hwk := hft.work
  have htm := hft.time
  have hwz : wholeZ s s.tasks[k] = workL s.tasks[k].regs + ownZ s s.tasks[k] - 1 := rfl
  generalize ownZ s s.tasks[k] = oz at how hwz HO
  generalize workL s.tasks[k].regs = wk at HW hwk hwz
  have w1 : IntKind.i64.wrap (wk + oz) = wk + oz := by rw [IntKind.wrap_i64]; omega
  have w2 : IntKind.i64.wrap (wk + oz - 1) = wk + oz - 1 := by rw [IntKind.wrap_i64]; omega
  have HWZ := Lib.hid hwz
  clear hwz hft
  refine wp_region_all (S := Ext W) (by kernel_rfl) (by kernel_rfl) (Ext.refl W).drew (fun K hK => ?_); (repeat (first | (apply hO_and; (· rfl); (· rfl); (· rfl); (· rfl); simp only [Act.put, List.setIfInBounds_toArray, List.set_cons_zero, List.set_cons_succ]) | (apply hO_or; (· rfl); (· rfl); (· rfl); (· rfl); simp only [Act.put, List.setIfInBounds_toArray, List.set_cons_zero, List.set_cons_succ]) | (apply hO_off; (· rfl); (· rfl); simp only [Act.put, List.setIfInBounds_toArray, List.set_cons_zero, List.set_cons_succ]) | (apply hO_val; (· intro w hS; go_simp; with_reducible rfl); (· rfl); simp only [Act.put, List.setIfInBounds_toArray, List.set_cons_zero, List.set_cons_succ]) | (apply hO_call; (· rfl); (· intro w hS; go_simp; exact ⟨rfl, rfl⟩); (· intro w hS; first | exact callX hS (HW.out _ hS) | exact callX hS (HO.out _ hS)); simp only [Act.put, List.setIfInBounds_toArray, List.set_cons_zero, List.set_cons_succ]) | (apply hO_if; (· rfl); (· rfl); (· intro hif w hS; go_simp; with_reducible rfl); simp only [Act.put, List.setIfInBounds_toArray, List.set_cons_zero, List.set_cons_succ]) | (apply hO_ifcall; (· rfl); (· rfl); (· intro hif w hS; go_simp; exact ⟨rfl, rfl⟩); (· intro hif w hS; first | exact callX hS (HW.out _ hS) | exact callX hS (HO.out _ hS)); simp only [Act.put, List.setIfInBounds_toArray, List.set_cons_zero, List.set_cons_succ]))); refine hO_nil ?_; refine hK _ ?_; clear hK K
  intro w3 hX3
  go_wp2_with (fail)
  go_ret
  exact ⟨by rw [HWZ.out]; rfl, hL.trans (hX3.below.mono hL.size)⟩
theorem blockOf9_any (s : TSet) (v : Value) (low high : Nat) (w : World) (hv : Tasks w v s.tasks) (hs : Fine s) :
    Calls Tryz.prog 50 #[setV s v, .int .i64 low, .int .i64 high] w fun e w' => e = .returned (.int .i64 (blockOf s low high)) ∧ Below w.heap.size w w' := by
  have l1 := hv.len
  have hlen := hs.len
  have hv0 := hv
  obtain ⟨A, c, rfl, hle, hcm, _⟩ := hv0
  go_enter Tryz.func50, Tryz.ntmps50
  unfold setV
  go_upto_region 1 with (fail)
  have hL : Below w.heap.size w (w.alloc (.cells #[.int .i64 s.reload, (.slice A s.tasks.length c)] 24)) := (by repeat (first | exact Below.refl _ _ | assumption | refine Below.drew ?_ | refine Below.alloc ?_ (by first | (simp; done) | (simp; omega) | omega) _ | refine Below.setCell ?_ (by first | (simp; done) | (simp; omega) | omega) _)); have hB : Blk (w.alloc (.cells #[.int .i64 s.reload, (.slice A s.tasks.length c)] 24)) w.heap.size #[.int .i64 s.reload, (.slice A s.tasks.length c)] 24 := Blk.new _ _ _
  have hr := hv.ext ⟨hL⟩
  generalize w.alloc _ = W at hL hB hr ⊢
  have hc := hB.under
  refine wp_region_all' (S := Ext W) (Ext.refl W) (fun K hK => ?_); (repeat (first | (apply hO_and; (· rfl); (· rfl); (· rfl); (· rfl); simp only [Act.put, List.setIfInBounds_toArray, List.set_cons_zero, List.set_cons_succ]) | (apply hO_or; (· rfl); (· rfl); (· rfl); (· rfl); simp only [Act.put, List.setIfInBounds_toArray, List.set_cons_zero, List.set_cons_succ]) | (apply hO_off; (· rfl); (· rfl); simp only [Act.put, List.setIfInBounds_toArray, List.set_cons_zero, List.set_cons_succ]) | (apply hO_val; (· intro w hS; go_simp; with_reducible rfl); (· rfl); simp only [Act.put, List.setIfInBounds_toArray, List.set_cons_zero, List.set_cons_succ]) | (apply hO_call; (· rfl); (· intro w hS; go_simp; exact ⟨rfl, rfl⟩); (· intro w hS; fail); simp only [Act.put, List.setIfInBounds_toArray, List.set_cons_zero, List.set_cons_succ]) | (apply hO_if; (· rfl); (· rfl); (· intro hif w hS; go_simp; with_reducible rfl); simp only [Act.put, List.setIfInBounds_toArray, List.set_cons_zero, List.set_cons_succ]) | (apply hO_ifcall; (· rfl); (· rfl); (· intro hif w hS; go_simp; exact ⟨rfl, rfl⟩); (· intro hif w hS; fail); simp only [Act.put, List.setIfInBounds_toArray, List.set_cons_zero, List.set_cons_succ]))); refine hO_nil ?_; refine forget_range 10 13 (Nat.le_of_ble_eq_true rfl) (fun junk => ?_); simp only [List.take_succ_cons, List.take_zero, List.drop_succ_cons, List.drop_zero, List.cons_append, List.nil_append, fillF, Nat.reduceAdd]; refine hK _ ?_; clear hK K
  intro w1 hX1
  by_cases h : high < low ∧ low < s.tasks.length
  · have hd2 : (decide ((high : Int) < 0) || decide ((low : Int) ≤ high) || decide ((s.tasks.length : Int) ≤ low)) = false := by simp; omega
    have hd : (decide ((high : Int) < 0) || decide (low ≤ high) || decide (s.tasks.length ≤ low)) = false := by simp; omega
    first | rw [hd] | rw [hd2]
    obtain ⟨b, o, r, rfl, hx⟩ := hr.at h.2
    have HO := Lib.hid fun W' (hX : Ext W W') => own8_any s (.slice (some ⟨b, o, none⟩) s.tasks.length c) low W' (hr.ext hX) hs h.2
    have HW := Lib.hid fun W' (hX : Ext W W') => whole9_any s (.slice (some ⟨b, o, none⟩) s.tasks.length c) low W' (hr.ext hX) hs h.2
    have hfin := hs.at low h.2
    have how := own_range hs s.tasks[low]
    have hbk : blockOf s low high = blockAt s s.tasks[low] high := by unfold blockOf; rw [dif_pos h]
    have hrow := hx.row
    have hI := hx.1
    generalize s.tasks[low] = t at hx HW hrow HO hfin how hbk hI
    have hbl : blockAt s t high = if t.mode = 0 then maxR t.regs + ownZ s t - 1 else if t.mode = 1 then min t.q (wholeZ s t) else if t.theta ≤ high then wholeZ s t else 0 := rfl
    generalize ownZ s t = oz at HO how hbl
    generalize wholeZ s t = wz at HW hbl
    have HB := Lib.hid hbk
    have HBL := Lib.hid hbl
    clear hbk hd hd2 hbl
    obtain ⟨A2, c2, rfl⟩ := hrow
    obtain ⟨x0, x1, x2, x3, x4, x5, x6, x7, x8⟩ := hx.under
    have y0 := x0 w1 hX1
    have y1 := x1 w1 hX1
    have y2 := x2 w1 hX1
    have y3 := x3 w1 hX1
    have y4 := x4 w1 hX1
    have y5 := x5 w1 hX1
    have y6 := x6 w1 hX1
    have y7 := x7 w1 hX1
    have y8 := x8 w1 hX1
    have hcB1 := (hB.ext hX1).cell
    clear x0 x1 x2 x3 x4 x5 x6 x7 x8
    go_upto_region 4 with (fail)
    have hX2 := hX1.alloc (.cells #[.string t.name, .int .i64 t.T, .int .i64 t.D, .int .i64 t.mode, .int .i64 t.q, .int .i64 t.theta, (.slice A2 t.regs.length c2), .int .u64 t.ecb, .int .u64 t.ucb] 41)
    have hT : Blk (w1.alloc (.cells #[.string t.name, .int .i64 t.T, .int .i64 t.D, .int .i64 t.mode, .int .i64 t.q, .int .i64 t.theta, (.slice A2 t.regs.length c2), .int .u64 t.ecb, .int .u64 t.ucb] 41)) w1.heap.size #[.string t.name, .int .i64 t.T, .int .i64 t.D, .int .i64 t.mode, .int .i64 t.q, .int .i64 t.theta, (.slice A2 t.regs.length c2), .int .u64 t.ecb, .int .u64 t.ucb] 41 := Blk.new _ _ _
    clear hcB1 y0 y1 y2 y3 y4 y5 y6 y7 y8
    generalize w1.heap.size = g at hT ⊢
    generalize w1.alloc _ = w2 at hX2 hT ⊢
    have hcT := hT.cell
    have hcB2 := (hB.ext hX2).cell
    have hrg := regs_each hfin.regs
    have hmx := maxR_range hfin.regs
    by_cases m0 : t.mode = 0
    · rw [m0] at hcT
      have hI2 := hI.ext hX2
      have hMS := maxR_step t.regs
      have HMS := Lib.hid hMS
      clear hMS
      go_wp2_with (fail)
      go_loopw [8, 9] (fun m i wr => ∃ k : Nat, k ≤ t.regs.length ∧ m = .int .i64 (maxR (t.regs.take k)) ∧ i = .int .i64 k ∧ Ext w2 wr) (fun _ i _ => t.regs.length - (intOf i).toNat)
      case atStart => exact ⟨0, Nat.zero_le _, rfl, rfl, Ext.refl w2⟩
      case round =>
        obtain ⟨k, hk, rfl, rfl, hX⟩ := hrel
        have hcTr := (hT.ext hX).cell
        by_cases hlt : k < t.regs.length
        · obtain ⟨b3, o3, rfl, hy⟩ := hI2.at hlt
          have hy2 := hy wr hX
          have hst := HMS.out k hlt
          generalize t.regs[k] = x at hy2 hst
          have HST := Lib.hid hst
          generalize maxR (t.regs.take k) = m at HST ⊢
          clear hst hy
          go_wp2_with (fail)
          exact ⟨⟨k + 1, hlt, by rw [HST.out], rfl, hX⟩, by simp [intOf]; omega⟩
        · have hke : k = t.regs.length := Nat.le_antisymm hk (Nat.not_lt.1 hlt)
          subst hke
          rw [List.take_length]
          have hX3 := hX2.trans hX
          have hcB3 := (hB.ext hX3).cell
          have hO3 := HO.out wr hX3
          generalize maxR t.regs = mx at hmx HBL ⊢
          go_wp2_with (fail)
          refine hO3.mono ?_
          rintro e w4 ⟨rfl, hb4⟩
          go_wp2_with (fail)
          go_ret
          exact ⟨by rw [HB.out, HBL.out, if_pos m0]; rfl, hL.trans ((hX3.call hb4).below.mono hL.size)⟩
    · have M0 := Lib.hid m0
      by_cases m1 : t.mode = 1
      · rw [m1] at hcT
        have hcTu := hT.under
        rw [m1] at hcTu
        have hcu := (hB.ext hX2).under
        have HW2 := Lib.hid fun W' (h : Ext w2 W') => HW.out W' (hX2.trans h)
        clear m0 hc
        go_upto_region 13 with (fail)
        refine wp_region_all (S := Ext w2) (by kernel_rfl) (by kernel_rfl) (Ext.refl w2).drew (fun K hK => ?_); (repeat (first | (apply hO_and; (· rfl); (· rfl); (· rfl); (· rfl); simp only [Act.put, List.setIfInBounds_toArray, List.set_cons_zero, List.set_cons_succ]) | (apply hO_or; (· rfl); (· rfl); (· rfl); (· rfl); simp only [Act.put, List.setIfInBounds_toArray, List.set_cons_zero, List.set_cons_succ]) | (apply hO_off; (· rfl); (· rfl); simp only [Act.put, List.setIfInBounds_toArray, List.set_cons_zero, List.set_cons_succ]) | (apply hO_val; (· intro w hS; go_simp; with_reducible rfl); (· rfl); simp only [Act.put, List.setIfInBounds_toArray, List.set_cons_zero, List.set_cons_succ]) | (apply hO_call; (· rfl); (· intro w hS; go_simp; exact ⟨rfl, rfl⟩); (· intro w hS; exact callX hS (HW2.out _ hS)); simp only [Act.put, List.setIfInBounds_toArray, List.set_cons_zero, List.set_cons_succ]) | (apply hO_if; (· rfl); (· rfl); (· intro hif w hS; go_simp; with_reducible rfl); simp only [Act.put, List.setIfInBounds_toArray, List.set_cons_zero, List.set_cons_succ]) | (apply hO_ifcall; (· rfl); (· rfl); (· intro hif w hS; go_simp; exact ⟨rfl, rfl⟩); (· intro hif w hS; exact callX hS (HW2.out _ hS)); simp only [Act.put, List.setIfInBounds_toArray, List.set_cons_zero, List.set_cons_succ]))); refine hO_nil ?_; refine hK _ ?_; clear hK K
        intro w3 hX3
        go_wp2_with (fail)
        go_ret
        exact ⟨by rw [HB.out, HBL.out, if_neg M0.out, if_pos m1]; rfl, hL.trans ((hX2.trans hX3).below.mono hL.size)⟩
      · have M1 := Lib.hid m1
        have hW2 := HW.out w2 hX2
        by_cases hth : t.theta ≤ high
        · go_wp2_with (fail)
          refine hW2.mono ?_
          rintro e w4 ⟨rfl, hb4⟩
          go_wp2_with (fail)
          go_ret
          exact ⟨by rw [HB.out, HBL.out, if_neg M0.out, if_neg M1.out, if_pos hth]; rfl, hL.trans ((hX2.call hb4).below.mono hL.size)⟩
        · go_wp2_with (fail)
          go_ret
          exact ⟨by rw [HB.out, HBL.out, if_neg M0.out, if_neg M1.out, if_neg (Int.not_le.2 hth)]; rfl, hL.trans (hX2.below.mono hL.size)⟩
  · have hd : (decide ((high : Int) < 0) || decide (low ≤ high) || decide (s.tasks.length ≤ low)) = true := by simp; omega
    have hd2 : (decide ((high : Int) < 0) || decide ((low : Int) ≤ high) || decide ((s.tasks.length : Int) ≤ low)) = true := by simp; omega
    first | rw [hd] | rw [hd2]
    have hb0 : blockOf s low high = 0 := by unfold blockOf; rw [dif_neg h]
    have HB := Lib.hid hb0
    clear hb0 hd hd2
    go_wp2_with (fail)
    go_ret
    exact ⟨by rw [HB.out]; rfl, hL.trans (hX1.below.mono hL.size)⟩
theorem most9_any (s : TSet) (v : Value) (i : Nat) (w : World) (hv : Tasks w v s.tasks) (hs : Fine s) (hi : i < s.tasks.length) :
    Calls Tryz.prog 37 #[setV s v, .int .i64 i] w fun e w' => e = .returned (.int .i64 (mostS s i)) ∧ Below w.heap.size w w' := by
  have l1 := hv.len
  have hlen := hs.len
  have hv0 := hv
  obtain ⟨A, c, rfl, hle, hcm, _⟩ := hv0
  go_enter Tryz.func37, Tryz.ntmps37
  unfold setV
  go_upto_region 1 with (fail)
  have hL : Below w.heap.size w (w.alloc (.cells #[.int .i64 s.reload, (.slice A s.tasks.length c)] 24)) := (by repeat (first | exact Below.refl _ _ | assumption | refine Below.drew ?_ | refine Below.alloc ?_ (by first | (simp; done) | (simp; omega) | omega) _ | refine Below.setCell ?_ (by first | (simp; done) | (simp; omega) | omega) _)); have hB : Blk (w.alloc (.cells #[.int .i64 s.reload, (.slice A s.tasks.length c)] 24)) w.heap.size #[.int .i64 s.reload, (.slice A s.tasks.length c)] 24 := Blk.new _ _ _
  have hr := hv.ext ⟨hL⟩
  generalize w.alloc _ = W at hL hB hr ⊢
  have hc := hB.under
  go_wp2_with (fail)
  go_loopw [5, 6] (fun n k wr => ∃ q : Nat, i + 1 ≤ q ∧ q ≤ s.tasks.length ∧ n = .int .i64 (mostL s i q) ∧ k = .int .i64 q ∧ Ext W wr) (fun _ k _ => s.tasks.length - (intOf k).toNat)
  case atStart => exact ⟨i + 1, Nat.le_refl _, hi, by rw [mostL_low s i (i + 1) (Nat.le_refl _)], by simp, Ext.refl W⟩
  case round =>
    obtain ⟨q, hiq, hq, rfl, rfl, hX⟩ := hrel
    have hcr := fun j => hc wr hX j
    by_cases hlt : q < s.tasks.length
    · have hst : mostL s i (q + 1) = max (mostL s i q) (blockOf s q i) := rfl
      have HS := Lib.hid hst
      have hb := blockOf9_any s (.slice A s.tasks.length c) q i wr (hr.ext hX) hs
      clear hst hc
      generalize mostL s i q = m at HS ⊢
      generalize blockOf s q i = z at HS hb
      go_wp2_with (fail)
      refine hb.mono ?_
      rintro e w2 ⟨rfl, hb2⟩
      go_wp2_with (fail)
      exact ⟨⟨q + 1, by omega, hlt, by rw [HS.out], rfl, hX.call hb2⟩, by simp [intOf]; omega⟩
    · have hqe : q = s.tasks.length := Nat.le_antisymm hq (Nat.not_lt.1 hlt)
      subst hqe
      clear hc
      go_wp2_with (fail)
      go_ret
      exact ⟨rfl, hL.trans (hX.below.mono hL.size)⟩
theorem respOf12_any (s : TSet) (v : Value) (i : Nat) (w : World) (hv : Tasks w v s.tasks) (hs : Fine s) (hi : i < s.tasks.length) :
    Calls Tryz.prog 26 #[setV s v, .int .i64 i] w fun e w' => e = .returned (pairZ (respS s i)) ∧ Below w.heap.size w w' := by
  have l1 := hv.len
  have hv0 := hv
  obtain ⟨A, c, rfl, hle, hcm, _⟩ := hv0
  go_enter Tryz.func26, Tryz.ntmps26
  unfold setV
  go_upto_region 1 with (fail)
  have hL : Below w.heap.size w (w.alloc (.cells #[.int .i64 s.reload, (.slice A s.tasks.length c)] 24)) := (by repeat (first | exact Below.refl _ _ | assumption | refine Below.drew ?_ | refine Below.alloc ?_ (by first | (simp; done) | (simp; omega) | omega) _ | refine Below.setCell ?_ (by first | (simp; done) | (simp; omega) | omega) _)); have hB : Blk (w.alloc (.cells #[.int .i64 s.reload, (.slice A s.tasks.length c)] 24)) w.heap.size #[.int .i64 s.reload, (.slice A s.tasks.length c)] 24 := Blk.new _ _ _
  have hr := hv.ext ⟨hL⟩
  generalize w.alloc _ = W at hL hB hr ⊢
  have hc := hB.under
  have HW := Lib.hid fun W' (h : Ext W W') => refWith_any s (.slice A s.tasks.length c) i (mostS s i) W' (hr.ext h) hs hi
  have HM := Lib.hid fun W' (h : Ext W W') => most9_any s (.slice A s.tasks.length c) i W' (hr.ext h) hs hi
  have hE : respS s i = withS s i (mostS s i) := rfl
  generalize mostS s i = m at HW HM hE
  generalize withS s i m = p at HW hE
  obtain ⟨p1, p2⟩ := p
  unfold pairZ at HW
  dsimp only at HW
  have HE := Lib.hid hE
  clear hE
  refine wp_region_all (S := Ext W) (by kernel_rfl) (by kernel_rfl) (Ext.refl W).drew (fun K hK => ?_); (repeat (first | (apply hO_and; (· rfl); (· rfl); (· rfl); (· rfl); simp only [Act.put, List.setIfInBounds_toArray, List.set_cons_zero, List.set_cons_succ]) | (apply hO_or; (· rfl); (· rfl); (· rfl); (· rfl); simp only [Act.put, List.setIfInBounds_toArray, List.set_cons_zero, List.set_cons_succ]) | (apply hO_off; (· rfl); (· rfl); simp only [Act.put, List.setIfInBounds_toArray, List.set_cons_zero, List.set_cons_succ]) | (apply hO_val; (· intro w hS; go_simp; with_reducible rfl); (· rfl); simp only [Act.put, List.setIfInBounds_toArray, List.set_cons_zero, List.set_cons_succ]) | (apply hO_call; (· rfl); (· intro w hS; go_simp; exact ⟨rfl, rfl⟩); (· intro w hS; first | exact callX hS (HM.out _ hS) | exact callX hS (HW.out _ hS)); simp only [Act.put, List.setIfInBounds_toArray, List.set_cons_zero, List.set_cons_succ]) | (apply hO_if; (· rfl); (· rfl); (· intro hif w hS; go_simp; with_reducible rfl); simp only [Act.put, List.setIfInBounds_toArray, List.set_cons_zero, List.set_cons_succ]) | (apply hO_ifcall; (· rfl); (· rfl); (· intro hif w hS; go_simp; exact ⟨rfl, rfl⟩); (· intro hif w hS; first | exact callX hS (HM.out _ hS) | exact callX hS (HW.out _ hS)); simp only [Act.put, List.setIfInBounds_toArray, List.set_cons_zero, List.set_cons_succ]))); refine hO_nil ?_; refine hK _ ?_; clear hK K
  intro w1 hX1
  go_wp2_with (fail)
  exact bodyPost_ret (v := pairZ (p1, p2)) (by simp [pairZ, results, Tryz.results26, go_sem, *]) rfl ⟨by rw [HE.out], hL.trans (hX1.below.mono hL.size)⟩
end Go.Proofs.YtknfdjnbndfboabGreatDoor
