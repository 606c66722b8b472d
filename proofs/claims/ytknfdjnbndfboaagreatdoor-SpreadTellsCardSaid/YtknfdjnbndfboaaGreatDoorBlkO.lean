/- block: Of, Most; slices.Max. -/
import Derived.Test.YtknfdjnbndfboaaGreatDoorProg
import Derived.Test.YtknfdjnbndfboaaGreatDoorBase
import Derived.Test.YtknfdjnbndfboaaGreatDoorHeldX
import Derived.Test.YtknfdjnbndfboaaGreatDoorTsk1
import Derived.Test.YtknfdjnbndfboaaGreatDoorTsk3
import Derived.Test.YtknfdjnbndfboaaGreatDoorTskZ
import Derived.Test.YtknfdjnbndfboaaGreatDoorRespS
import Derived.Test.YtknfdjnbndfboaaGreatDoorAgain
import Derived.Test.YtknfdjnbndfboaaGreatDoorBit
import Derived.Test.YtknfdjnbndfboaaGreatDoorNumP
import Derived.Deep.Cut
import Derived.Lib.Hide
namespace Go.Proofs.YtknfdjnbndfboaaGreatDoor
open Go.RowKit
attribute [local go_sem] setCell_twice ByteArray.toList_eq str_list Ext.alloc Ext.drew
set_option linter.unusedSimpArgs false
set_option maxRecDepth 100000
set_option maxHeartbeats 6400000
attribute [local irreducible] popN

theorem maxR_step (xs : List Int) (k : Nat) (h : k < xs.length) : maxR (xs.take (k + 1)) = max (maxR (xs.take k)) xs[k] := by
  unfold maxR
  rw [List.take_succ_eq_append_getElem h, List.foldl_append]
  rfl
theorem maxR_one (xs : List Int) (h : 0 < xs.length) (h0 : 0 ≤ xs[0]) : maxR (xs.take 1) = xs[0] := by
  rw [maxR_step xs 0 h]
  show max 0 _ = _
  omega
theorem slMax_any (xs : List Int) (v : Value) (w : World) (hv : Ints w v xs) (h1 : 1 ≤ xs.length) (h0 : ∀ x ∈ xs, 1 ≤ x) :
    Calls Tryz.prog 78 #[v] w fun e w' => e = .returned (.int .i64 (maxR xs)) ∧ w = w' := by
  have hv0 := hv
  obtain ⟨A, c, rfl, hle, hcm, _⟩ := hv0
  unfold maxLen at hcm
  have hone := maxR_one xs (by omega) (by have := h0 _ (List.getElem_mem (show 0 < xs.length by omega)); omega)
  obtain ⟨b, o, rfl, hx⟩ := hv.at (show 0 < xs.length by omega)
  have hx0 := hx w (Ext.refl w)
  rw [← hone] at hx0
  rw [Nat.add_zero] at hx0
  clear hx hone
  go_enter Tryz.func78, Tryz.ntmps78
  go_wp2_with (fail)
  go_loop [3, 4] (fun m i => ∃ k : Nat, 1 ≤ k ∧ k ≤ xs.length ∧ m = .int .i64 (maxR (xs.take k)) ∧ i = .int .i64 k) (fun _ i => xs.length - (intOf i).toNat)
  case atStart => exact ⟨1, Nat.le_refl _, h1, rfl, rfl⟩
  case round =>
    obtain ⟨k, hk1, hk, rfl, rfl⟩ := hrel
    by_cases hlt : k < xs.length
    · obtain ⟨b2, o2, e, hy⟩ := hv.at hlt
      obtain ⟨rfl, rfl⟩ : b2 = b ∧ o2 = o := by cases e; exact ⟨rfl, rfl⟩
      have hy0 := hy w (Ext.refl w)
      have hs := maxR_step xs k hlt
      generalize xs[k] = x at hy0 hs
      have HS := Lib.hid hs
      clear hs hy
      generalize maxR (xs.take k) = m at HS ⊢
      go_wp2_with (fail)
      exact ⟨⟨k + 1, by omega, hlt, by rw [HS.out], rfl⟩, by simp [intOf]; omega⟩
    · obtain rfl : k = xs.length := by omega
      rw [List.take_length]
      go_wp2_with (fail)
      go_ret
      exact ⟨rfl, rfl⟩
theorem blockOf_any (s : TSet) (v : Value) (low high : Nat) (w : World) (hv : Tasks w v s.tasks) (hs : Fine s) :
    Calls Tryz.prog 61 #[setV s v, .int .i64 low, .int .i64 high] w fun e w' => e = .returned (.int .i64 (blockOf s low high)) ∧ Below w.heap.size w w' := by
  have l1 := hv.len
  have hlen := hs.len
  have hv0 := hv
  obtain ⟨A, c, rfl, hle, hcm, _⟩ := hv0
  go_enter Tryz.func61, Tryz.ntmps61
  unfold setV
  go_upto_region 1 with (fail)
  have hL : Below w.heap.size w (w.alloc (.cells #[.int .i64 s.reload, (.slice A s.tasks.length c)] 24)) := (by repeat (first | exact Below.refl _ _ | assumption | refine Below.drew ?_ | refine Below.alloc ?_ (by first | (simp; done) | (simp; omega) | omega) _ | refine Below.setCell ?_ (by first | (simp; done) | (simp; omega) | omega) _)); have hB : Blk (w.alloc (.cells #[.int .i64 s.reload, (.slice A s.tasks.length c)] 24)) w.heap.size #[.int .i64 s.reload, (.slice A s.tasks.length c)] 24 := Blk.new _ _ _
  have hr := hv.ext ⟨hL⟩
  generalize w.alloc _ = W at hL hB hr ⊢
  have hc := hB.under
  refine wp_region_all' (S := Ext W) (Ext.refl W) (fun K hK => ?_); (repeat (first | (apply hO_and; (· rfl); (· rfl); (· rfl); (· rfl); simp only [Act.put, List.setIfInBounds_toArray, List.set_cons_zero, List.set_cons_succ]) | (apply hO_or; (· rfl); (· rfl); (· rfl); (· rfl); simp only [Act.put, List.setIfInBounds_toArray, List.set_cons_zero, List.set_cons_succ]) | (apply hO_off; (· rfl); (· rfl); simp only [Act.put, List.setIfInBounds_toArray, List.set_cons_zero, List.set_cons_succ]) | (apply hO_val; (· intro w hS; go_simp; with_reducible rfl); (· rfl); simp only [Act.put, List.setIfInBounds_toArray, List.set_cons_zero, List.set_cons_succ]) | (apply hO_call; (· rfl); (· intro w hS; go_simp; exact ⟨rfl, rfl⟩); (· intro w hS; fail); simp only [Act.put, List.setIfInBounds_toArray, List.set_cons_zero, List.set_cons_succ]) | (apply hO_if; (· rfl); (· rfl); (· intro hif w hS; go_simp; with_reducible rfl); simp only [Act.put, List.setIfInBounds_toArray, List.set_cons_zero, List.set_cons_succ]) | (apply hO_ifcall; (· rfl); (· rfl); (· intro hif w hS; go_simp; exact ⟨rfl, rfl⟩); (· intro hif w hS; fail); simp only [Act.put, List.setIfInBounds_toArray, List.set_cons_zero, List.set_cons_succ]))); refine hO_nil ?_; refine forget_range 10 13 (Nat.le_of_ble_eq_true rfl) (fun junk => ?_); simp only [List.take_succ_cons, List.take_zero, List.drop_succ_cons, List.drop_zero, List.cons_append, List.nil_append, fillF, Nat.reduceAdd]; refine hK _ ?_; clear hK K
  intro w1 hX1
  by_cases h : high < low ∧ low < s.tasks.length
  · have hd : (decide ((high : Int) < 0) || decide (low ≤ high) || decide (s.tasks.length ≤ low)) = false := by simp; omega
    have hd2 : (decide ((high : Int) < 0) || decide ((low : Int) ≤ high) || decide ((s.tasks.length : Int) ≤ low)) = false := by simp; omega
    first | rw [hd] | rw [hd2]
    obtain ⟨b, o, r, rfl, hx⟩ := hr.at h.2
    have ho := own_any s (.slice (some ⟨b, o, none⟩) s.tasks.length c) low
    have HO := Lib.hid fun W' (hX : Ext W W') => ho W' (hr.ext hX) hs.plain h.2
    clear ho
    have hfin := hs.at low h.2
    have how := own_range hs s.tasks[low]
    have hbk : blockOf s low high = blockAt s s.tasks[low] high := by unfold blockOf; rw [dif_pos h]
    rw [show s.reload * (popN 64 s.tasks[low].ucb.toNat : Nat) = ownZ s s.tasks[low] from rfl] at HO
    have HW := Lib.hid fun W' (h2 : Ext W W') => work_any s.tasks[low] r W' (hx.1.ext h2)
    have hrow := hx.row
    have hI := hx.1
    have hwr := whole_range hs h.2
    generalize s.tasks[low] = t at hx HW hrow HO hfin how hbk hI hwr
    have HB := Lib.hid hbk
    clear hbk hd hd2
    obtain ⟨A2, c2, rfl⟩ := hrow
    obtain ⟨x0, x1, x2, x3, x4, x5, x6, x7, x8⟩ := hx.under
    generalize hoz : ownZ s t = oz at HO how
    have HZ := Lib.hid hoz
    clear hoz
    go_upto_region 3 with (fail)
    refine' wp_region_mix1 (T := [8, 9]) (S := Ext W) (fun g w => Ext W w ∧ Blk w g #[.string t.name, .int .i64 t.T, .int .i64 t.D, .int .i64 t.mode, .int .i64 t.q, .int .i64 t.theta, (.slice A2 t.regs.length c2), .int .u64 t.ecb, .int .u64 t.ucb] 33) (Ext.mono W) (by kernel_rfl) (by kernel_rfl) hX1.drew (Ext.refl W) (fun K hK => ?_) ?_
    rotate_left 1
    · (repeat (first | (refine hX_skip ?_ ?_; (· rfl)) | (apply hX_and; (· rfl); (· rfl); (· rfl); (· rfl); (· rfl); simp only [Act.put, List.setIfInBounds_toArray, List.set_cons_zero, List.set_cons_succ]) | (apply hX_or; (· rfl); (· rfl); (· rfl); (· rfl); (· rfl); simp only [Act.put, List.setIfInBounds_toArray, List.set_cons_zero, List.set_cons_succ]) | (apply hX_off; (· rfl); (· rfl); (· rfl); simp only [Act.put, List.setIfInBounds_toArray, List.set_cons_zero, List.set_cons_succ]) | (apply hX_val; (· rfl); (· intro w hS; go_simp; with_reducible rfl); (· rfl); simp only [Act.put, List.setIfInBounds_toArray, List.set_cons_zero, List.set_cons_succ]) | (apply hX_call; (· rfl); (· rfl); (· intro w hS; go_simp; exact ⟨rfl, rfl⟩); (· intro w hS; exact callXX (HO.out _ hS)); simp only [Act.put, List.setIfInBounds_toArray, List.set_cons_zero, List.set_cons_succ]) | (apply hX_if; (· rfl); (· rfl); (· rfl); (· intro hif w hS; go_simp; with_reducible rfl); simp only [Act.put, List.setIfInBounds_toArray, List.set_cons_zero, List.set_cons_succ]) | (apply hX_ifcall; (· rfl); (· rfl); (· rfl); (· intro hif w hS; go_simp; exact ⟨rfl, rfl⟩); (· intro hif w hS; exact callXX (HO.out _ hS)); simp only [Act.put, List.setIfInBounds_toArray, List.set_cons_zero, List.set_cons_succ]))); refine hX_nil ?_
      refine hK _ ?_
      clear hK K
      have hXr := Ext.refl W
      refine wpX_one (i := 8) (by kernel_rfl) rfl rfl ?_; intro w2 hx2 K hK; go_simp; have hb1 : Blk (w2.alloc (.cells #[.string ⟨#[]⟩, .int .i64 0, .int .i64 0, .int .i64 0, .int .i64 0, .int .i64 0, .slice none 0 0, .int .u64 0, .int .u64 0] 33)) w2.heap.size #[.string ⟨#[]⟩, .int .i64 0, .int .i64 0, .int .i64 0, .int .i64 0, .int .i64 0, .slice none 0 0, .int .u64 0, .int .u64 0] 33 := Blk.new _ _ _; have hE2 := (hXr.trans hx2).alloc (.cells #[.string ⟨#[]⟩, .int .i64 0, .int .i64 0, .int .i64 0, .int .i64 0, .int .i64 0, .slice none 0 0, .int .u64 0, .int .u64 0] 33); have hg1 := (hXr.trans hx2).size; refine hK _ _ hE2 ?_; clear hK K hx2; generalize w2.heap.size = g1 at hb1 hg1 ⊢; generalize w2.alloc _ = W2 at hb1 hE2 ⊢
      refine wpX_one (i := 9) (by kernel_rfl) rfl rfl ?_; intro w3 hx3 K hK; have hb3 := hb1.ext hx3; have hE3 := hE2.trans hx3; clear hx3 hb1 hE2; have hc4 := hb3.cell; have hf4 := hb3.free; go_simp; refine hK _ _ (ext_ch9 hE3 hg1) ?_; clear hK K hc4 hf4; refine wpX_done (by kernel_rfl) (fun w6 hx6 => ⟨g1, rfl, (ext_ch9 hE3 hg1).trans hx6, (blk_ch9 hb3).ext hx6⟩) _
    · rintro g w2 ⟨hX2, hT⟩
      have hcT := hT.cell
      have hW2 := HW.out w2 hX2
      unfold tskV at hW2
      have hwk := hfin.work
      have htm := hfin.time
      have hrg := regs_each hfin.regs
      have hmx := maxR_range hfin.regs
      have hMX := fun W' (h2 : Ext W W') => slMax_any t.regs (.slice A2 t.regs.length c2) W' (hI.ext h2) hrg.1 (fun x hx => (hrg.2.2 x hx).1)
      have HMX := Lib.hid hMX
      clear hMX hrg x0 x1 x2 x3 x4 x5 x6 x7 x8 hx hI hB hc hr hv
      have hbl : blockAt s t high = if t.mode = 0 then maxR t.regs + oz - 1 else if t.mode = 1 then min t.q (workL t.regs + oz - 1) else if t.theta ≤ high then workL t.regs + oz - 1 else 0 := by
        unfold blockAt wholeZ
        rw [HZ.out]
      generalize workL t.regs = wk at *
      generalize maxR t.regs = mx at *
      have HBL := Lib.hid hbl
      clear hbl
      go_wp2_with (fail)
      refine hW2.mono ?_
      rintro e w3 ⟨rfl, hb3⟩
      have hX3 := hX2.call hb3
      have hcT3 := (hT.ext ⟨hb3⟩).cell
      have hM3 := HMX.out w3 hX3
      clear hcT hW2 hb3 hT HMX
      by_cases m0 : t.mode = 0
      · rw [m0] at hcT3
        go_wp2_with (fail)
        refine hM3.mono ?_
        rintro e w4 ⟨rfl, rfl⟩
        go_wp2_with (fail)
        go_ret
        exact ⟨by rw [HB.out, HBL.out, if_pos m0]; rfl, hL.trans (hX3.below.mono hL.size)⟩
      · have M0 := Lib.hid m0
        by_cases m1 : t.mode = 1
        · rw [m1] at hcT3
          clear m0
          go_wp2_with (fail)
          go_ret
          exact ⟨by rw [HB.out, HBL.out, if_neg M0.out, if_pos m1]; rfl, hL.trans (hX3.below.mono hL.size)⟩
        · have M1 := Lib.hid m1
          by_cases hth : t.theta ≤ high
          · go_wp2_with (fail)
            go_ret
            exact ⟨by rw [HB.out, HBL.out, if_neg M0.out, if_neg M1.out, if_pos hth]; rfl, hL.trans (hX3.below.mono hL.size)⟩
          · go_wp2_with (fail)
            go_ret
            exact ⟨by rw [HB.out, HBL.out, if_neg M0.out, if_neg M1.out, if_neg (Int.not_le.2 hth)]; rfl, hL.trans (hX3.below.mono hL.size)⟩
  · have hd : (decide ((high : Int) < 0) || decide (low ≤ high) || decide (s.tasks.length ≤ low)) = true := by simp; omega
    have hd2 : (decide ((high : Int) < 0) || decide ((low : Int) ≤ high) || decide ((s.tasks.length : Int) ≤ low)) = true := by simp; omega
    first | rw [hd] | rw [hd2]
    have hb0 : blockOf s low high = 0 := by unfold blockOf; rw [dif_neg h]
    have HB := Lib.hid hb0
    clear hb0 hd hd2
    go_wp2_with (fail)
    go_ret
    exact ⟨by rw [HB.out]; rfl, hL.trans (hX1.below.mono hL.size)⟩
theorem most_any (s : TSet) (v : Value) (i : Nat) (w : World) (hv : Tasks w v s.tasks) (hs : Fine s) :
    Calls Tryz.prog 45 #[setV s v, .int .i64 i] w fun e w' => e = .returned (.int .i64 (mostS s i)) ∧ Below w.heap.size w w' := by
  have l1 := hv.len
  have hlen := hs.len
  have hv0 := hv
  obtain ⟨A, c, rfl, hle, hcm, _⟩ := hv0
  go_enter Tryz.func45, Tryz.ntmps45
  unfold setV
  go_upto_region 1 with (fail)
  have hL : Below w.heap.size w (w.alloc (.cells #[.int .i64 s.reload, (.slice A s.tasks.length c)] 24)) := (by repeat (first | exact Below.refl _ _ | assumption | refine Below.drew ?_ | refine Below.alloc ?_ (by first | (simp; done) | (simp; omega) | omega) _ | refine Below.setCell ?_ (by first | (simp; done) | (simp; omega) | omega) _)); have hB : Blk (w.alloc (.cells #[.int .i64 s.reload, (.slice A s.tasks.length c)] 24)) w.heap.size #[.int .i64 s.reload, (.slice A s.tasks.length c)] 24 := Blk.new _ _ _
  have hr := hv.ext ⟨hL⟩
  generalize w.alloc _ = W at hL hB hr ⊢
  have hc := hB.under
  have hcell := hB.cell
  go_wp2_with (fail)
  clear hcell
  go_loopw [5, 10] (fun n k wr => ∃ q : Nat, q ≤ s.tasks.length ∧ n = .int .i64 (mostL s i q) ∧ k = .int .i64 q ∧ Ext W wr) (fun _ k _ => s.tasks.length - (intOf k).toNat)
  case atStart => exact ⟨0, Nat.zero_le _, rfl, rfl, Ext.refl W⟩
  case round =>
    obtain ⟨q, hq, rfl, rfl, hX⟩ := hrel
    have hcr := fun j => hc wr hX j
    by_cases hlt : q < s.tasks.length
    · have hst : mostL s i (q + 1) = max (mostL s i q) (blockOf s q i) := rfl
      have HS := Lib.hid hst
      have hb := blockOf_any s (.slice A s.tasks.length c) q i wr (hr.ext hX) hs
      clear hst hc
      generalize mostL s i q = m at HS ⊢
      generalize blockOf s q i = z at HS hb
      go_wp2_with (fail)
      refine hb.mono ?_
      rintro e w2 ⟨rfl, hb2⟩
      go_wp2_with (fail)
      exact ⟨⟨q + 1, hlt, by rw [HS.out], rfl, hX.call hb2⟩, by simp [intOf]; omega⟩
    · obtain rfl : q = s.tasks.length := by omega
      clear hc
      go_wp2_with (fail)
      go_ret
      exact ⟨rfl, hL.trans (hX.below.mono hL.size)⟩
end Go.Proofs.YtknfdjnbndfboaaGreatDoor
