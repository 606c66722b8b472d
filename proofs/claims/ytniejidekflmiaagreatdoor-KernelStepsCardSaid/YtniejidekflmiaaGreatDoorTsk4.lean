import Derived.Test.YtniejidekflmiaaGreatDoorProg
import Derived.Test.YtniejidekflmiaaGreatDoorBase
import Derived.Test.YtniejidekflmiaaGreatDoorLexM
import Derived.Test.YtniejidekflmiaaGreatDoorLex1
import Derived.Test.YtniejidekflmiaaGreatDoorTskM
import Derived.Test.YtniejidekflmiaaGreatDoorTsk1
import Derived.Test.YtniejidekflmiaaGreatDoorTsk2
import Derived.Test.YtniejidekflmiaaGreatDoorHeldX
import Derived.Test.YtniejidekflmiaaGreatDoorTsk3
import Derived.BigQuiet
import Derived.Deep.QuietTactic
import Derived.Deep.Cut
namespace Go.Proofs.YtniejidekflmiaaGreatDoor
open Go.RowKit
attribute [local go_sem] setCell_twice ByteArray.toList_eq str_list
set_option linter.unusedSimpArgs false

theorem wrap_in {x : Int} (h0 : 0 ≤ x) (h1 : x ≤ 9223372036854775807) : wrap64 x = x := by
  unfold wrap64
  omega
theorem work_bound (xs : List Int) (hall : ∀ x ∈ xs, 1 ≤ x ∧ x ≤ 10000) (hl : xs.length ≤ 8) : ∀ k, k ≤ xs.length → (k : Int) ≤ workL (xs.take k) ∧ workL (xs.take k) ≤ 10000 * k := by
  intro k
  induction k with
  | zero => intro _; simp [workL]
  | succ k ih =>
    intro hk
    obtain ⟨h0, h1⟩ := ih (by omega)
    rw [work_snoc xs k (by omega)]
    obtain ⟨h2, h3⟩ := hall _ (List.getElem_mem (show k < xs.length by omega))
    rw [wrap_in (by omega) (by omega)]
    omega
theorem work_pos {xs : List Int} (h : regsB xs = true) : 1 ≤ workL xs ∧ workL xs ≤ 80000 := by
  simp only [regsB, Bool.and_eq_true, decide_eq_true_eq, List.all_eq_true, regB] at h
  obtain ⟨h1, h2, h3⟩ := h
  have := work_bound xs (fun x hx => h3 x hx) h2 xs.length (Nat.le_refl _)
  rw [List.take_length] at this
  omega

set_option maxHeartbeats 6400000 in
set_option maxRecDepth 100000 in
theorem isR_any (t : Tsk) (r : Value) (p : Int) (w : World) (hr : Ints w r t.regs) (hs : t.name.size ≤ maxLen) :
    Calls Tryz.prog 24 #[tskV t r, .int .i64 p] w fun e w' => e = .returned (.bool (isB t p)) ∧ Below w.heap.size w w' := by
  have hr1 := hr
  obtain ⟨A, c, rfl, h1, h2, h3⟩ := hr1
  unfold maxLen at h2
  go_enter Tryz.func24, Tryz.ntmps24
  unfold tskV
  go_upto_region 1 with (fail)
  have hL : Below w.heap.size w (w.alloc (.cells #[.string t.name, .int .i64 t.T, .int .i64 t.D, .int .i64 t.mode, .int .i64 t.q, .int .i64 t.theta, (.slice A t.regs.length c), .int .u64 t.ecb, .int .u64 t.ucb] 38)) := (by repeat (first | exact Below.refl _ _ | assumption | refine Below.drew ?_ | refine Below.alloc ?_ (by first | (simp; done) | (simp; omega) | omega) _ | refine Below.setCell ?_ (by first | (simp; done) | (simp; omega) | omega) _))
  have hB : Blk (w.alloc (.cells #[.string t.name, .int .i64 t.T, .int .i64 t.D, .int .i64 t.mode, .int .i64 t.q, .int .i64 t.theta, (.slice A t.regs.length c), .int .u64 t.ecb, .int .u64 t.ucb] 38)) w.heap.size #[.string t.name, .int .i64 t.T, .int .i64 t.D, .int .i64 t.mode, .int .i64 t.q, .int .i64 t.theta, (.slice A t.regs.length c), .int .u64 t.ecb, .int .u64 t.ucb] 38 := Blk.new _ _ _
  have hr0 := hr.below hL
  generalize w.alloc _ = W at hL hB hr0 ⊢
  have hc := hB.under
  refine wp_region_all' (S := Ext W) (Ext.refl W) (fun K hK => ?_); (repeat (first | (apply hO_and; (· rfl); (· rfl); (· rfl); (· rfl); simp only [Act.put, List.setIfInBounds_toArray, List.set_cons_zero, List.set_cons_succ]) | (apply hO_or; (· rfl); (· rfl); (· rfl); (· rfl); simp only [Act.put, List.setIfInBounds_toArray, List.set_cons_zero, List.set_cons_succ]) | (apply hO_off; (· rfl); (· rfl); simp only [Act.put, List.setIfInBounds_toArray, List.set_cons_zero, List.set_cons_succ]) | (apply hO_val; (· intro w hS; go_simp; with_reducible rfl); (· rfl); simp only [Act.put, List.setIfInBounds_toArray, List.set_cons_zero, List.set_cons_succ]) | (apply hO_call; (· rfl); (· intro w hS; go_simp; exact ⟨rfl, rfl⟩); (· intro w hS; exact callX hS (nameR_any _ _ hs)); simp only [Act.put, List.setIfInBounds_toArray, List.set_cons_zero, List.set_cons_succ]) | (apply hO_if; (· rfl); (· rfl); (· intro hif w hS; go_simp; with_reducible rfl); simp only [Act.put, List.setIfInBounds_toArray, List.set_cons_zero, List.set_cons_succ]) | (apply hO_ifcall; (· rfl); (· rfl); (· intro hif w hS; go_simp; exact ⟨rfl, rfl⟩); (· intro hif w hS; exact callX hS (nameR_any _ _ hs)); simp only [Act.put, List.setIfInBounds_toArray, List.set_cons_zero, List.set_cons_succ]))); refine hO_nil ?_; refine forget_range 6 23 (Nat.le_of_ble_eq_true rfl) (fun junk => ?_); simp only [List.take_succ_cons, List.take_zero, List.drop_succ_cons, List.drop_zero, List.cons_append, List.nil_append, fillF, Nat.reduceAdd]; refine hK _ ?_; clear hK K
  intro w1 hX1
  cases hb : (!nameB t.name.data.toList || decide ((t.regs.length : Int) < 1) || decide (8 < (t.regs.length : Int)) || bits BinOp.andNot IntKind.u64 t.ucb t.ecb != 0) with
  | true =>
    have HB := Lib.hid hb; clear hb
    go_wp2_with (fail)
    go_ret
    refine ⟨rb ?_, hL.trans (hX1.below.mono hL.size)⟩
    have := HB.out
    simp only [Bool.or_eq_true, Bool.not_eq_true', decide_eq_true_eq, bne_iff_ne, ne_eq] at this
    simp only [isB, regsB]
    rcases this with ((h | h) | h) | h
    · simp [h]
    · rw [decide_eq_false (by omega)]; simp
    · rw [decide_eq_false (p := t.regs.length ≤ 8) (by omega)]; simp
    · rw [show (bits BinOp.andNot IntKind.u64 t.ucb t.ecb == 0) = false by simpa using h]; simp
  | false =>
    have HB := Lib.hid hb; clear hb
    go_wp2_with (fail)
    go_loopw [5] (fun i wr => ∃ k : Nat, k ≤ t.regs.length ∧ i = .int .i64 k ∧ Hid ((t.regs.take k).all regB = true) ∧ Ext W wr) (fun i _ => t.regs.length - (intOf i).toNat)
    case atStart => exact ⟨0, Nat.zero_le _, rfl, Lib.hid rfl, hX1⟩
    case round =>
      obtain ⟨k, hk, rfl, HA, hX⟩ := hrel
      by_cases hlt : k < t.regs.length
      · obtain ⟨b, o, rfl, hd⟩ := hr0.at hlt
        have hs1 : t.regs.take (k + 1) = t.regs.take k ++ [t.regs[k]] := List.take_succ_eq_append_getElem hlt
        have hm1 : t.regs[k] ∈ t.regs := List.getElem_mem hlt
        generalize t.regs[k] = x at hd hs1 hm1
        have HS := Lib.hid hs1; clear hs1
        have HX := Lib.hid hm1; clear hm1
        have inR : ∀ W, Calls Tryz.prog 23 #[.int .i64 x, .int .i64 1, .int .i64 10000] W fun e w' => e = .returned (.bool (regB x)) ∧ W = w' := fun W => in_any x 1 10000 W
        cases hR : regB x with
        | true =>
          go_wp2_with (go_at_call 23; refine (inR _).mono ?_; rintro e w' ⟨rfl, rfl⟩; rw [hR])
          exact ⟨⟨k + 1, hlt, rfl, Lib.hid (by rw [HS.out, List.all_append, HA.out]; simp [hR]), hX⟩, by simp [intOf]; omega⟩
        | false =>
          go_wp2_with (go_at_call 23; refine (inR _).mono ?_; rintro e w' ⟨rfl, rfl⟩; rw [hR])
          go_ret
          refine ⟨rb ?_, hL.trans (hX.below.mono hL.size)⟩
          have : t.regs.all regB = false := by
            cases h : t.regs.all regB with
            | false => rfl
            | true => rw [List.all_eq_true] at h; rw [h x HX.out] at hR; cases hR
          simp [isB, regsB, this]
      · obtain rfl : k = t.regs.length := by omega
        go_wp2_with (fail)
        refine wp_region_all (S := Ext W) (by kernel_rfl) (by kernel_rfl) hX.drew (fun K hK => ?_); (repeat (first | (apply hO_and; (· rfl); (· rfl); (· rfl); (· rfl); simp only [Act.put, List.setIfInBounds_toArray, List.set_cons_zero, List.set_cons_succ]) | (apply hO_or; (· rfl); (· rfl); (· rfl); (· rfl); simp only [Act.put, List.setIfInBounds_toArray, List.set_cons_zero, List.set_cons_succ]) | (apply hO_off; (· rfl); (· rfl); simp only [Act.put, List.setIfInBounds_toArray, List.set_cons_zero, List.set_cons_succ]) | (apply hO_val; (· intro w hS; go_simp; with_reducible rfl); (· rfl); simp only [Act.put, List.setIfInBounds_toArray, List.set_cons_zero, List.set_cons_succ]) | (apply hO_call; (· rfl); (· intro w hS; go_simp; exact ⟨rfl, rfl⟩); (· intro w hS; exact callX hS (workR_any t _ _ (hr0.ext hS))); simp only [Act.put, List.setIfInBounds_toArray, List.set_cons_zero, List.set_cons_succ]) | (apply hO_if; (· rfl); (· rfl); (· intro hif w hS; go_simp; with_reducible rfl); simp only [Act.put, List.setIfInBounds_toArray, List.set_cons_zero, List.set_cons_succ]) | (apply hO_ifcall; (· rfl); (· rfl); (· intro hif w hS; go_simp; exact ⟨rfl, rfl⟩); (· intro hif w hS; exact callX hS (workR_any t _ _ (hr0.ext hS))); simp only [Act.put, List.setIfInBounds_toArray, List.set_cons_zero, List.set_cons_succ]))); refine hO_nil ?_; refine forget_range 44 16 (Nat.le_of_ble_eq_true rfl) (fun junk => ?_); simp only [List.take_succ_cons, List.take_zero, List.drop_succ_cons, List.drop_zero, List.cons_append, List.nil_append, fillF, Nat.reduceAdd]; refine hK _ ?_; clear hK K
        intro w2 hX2
        have hreg : regsB t.regs = true := by
          have hb := HB.out
          have ha := HA.out
          rw [List.take_length] at ha
          simp only [Bool.or_eq_false_iff, Bool.not_eq_false', decide_eq_false_iff_not] at hb
          simp only [regsB, ha, Bool.and_eq_true, decide_eq_true_eq]
          exact ⟨by omega, by omega, trivial⟩
        have hfirst : nameB t.name.data.toList = true ∧ (bits BinOp.andNot IntKind.u64 t.ucb t.ecb == 0) = true := by
          have hb := HB.out
          simp only [Bool.or_eq_false_iff, Bool.not_eq_false'] at hb
          exact ⟨hb.1.1.1, by simpa using hb.2⟩
        have hP := work_pos hreg
        have H1 := Lib.hid hreg; clear hreg
        have H2 := Lib.hid hfirst; clear hfirst
        clear HA HB
        cases hb : (decide (t.D < workL t.regs) || decide (t.T < t.D) || decide (10000 < t.T)) with
        | true =>
          have HB := Lib.hid hb; clear hb hP
          go_wp2_with (fail)
          go_ret
          refine ⟨rb ?_, hL.trans (hX2.below.mono hL.size)⟩
          have := HB.out
          simp only [Bool.or_eq_true, decide_eq_true_eq] at this
          simp only [isB]
          rcases this with (h | h) | h
          · rw [decide_eq_false (p := workL t.regs ≤ t.D) (by omega)]; simp
          · rw [decide_eq_false (p := t.D ≤ t.T) (by omega)]; simp
          · rw [decide_eq_false (p := t.T ≤ 10000) (by omega)]; simp
        | false =>
          have hfin : isB t p = modeB t p := by
            simp only [Bool.or_eq_false_iff, decide_eq_false_iff_not] at hb
            simp only [isB, H1.out, H2.out.1, H2.out.2]
            rw [decide_eq_true (p := workL t.regs ≤ t.D) (by omega), decide_eq_true (p := t.D ≤ t.T) (by omega), decide_eq_true (p := t.T ≤ 10000) (by omega), decide_eq_true (p := t.T ≥ 0) (by omega)]
            simp
          clear hb hP H1 H2
          have HF := Lib.hid hfin; clear hfin
          cases e0 : t.mode == 0 with
          | true =>
            go_upto_region 12 with (fail)
            refine wp_region_all' (S := Ext W) hX2 (fun K hK => ?_); (repeat (first | (apply hO_and; (· rfl); (· rfl); (· rfl); (· rfl); simp only [Act.put, List.setIfInBounds_toArray, List.set_cons_zero, List.set_cons_succ]) | (apply hO_or; (· rfl); (· rfl); (· rfl); (· rfl); simp only [Act.put, List.setIfInBounds_toArray, List.set_cons_zero, List.set_cons_succ]) | (apply hO_off; (· rfl); (· rfl); simp only [Act.put, List.setIfInBounds_toArray, List.set_cons_zero, List.set_cons_succ]) | (apply hO_val; (· intro w hS; go_simp; with_reducible rfl); (· rfl); simp only [Act.put, List.setIfInBounds_toArray, List.set_cons_zero, List.set_cons_succ]) | (apply hO_call; (· rfl); (· intro w hS; go_simp; exact ⟨rfl, rfl⟩); (· intro w hS; fail); simp only [Act.put, List.setIfInBounds_toArray, List.set_cons_zero, List.set_cons_succ]) | (apply hO_if; (· rfl); (· rfl); (· intro hif w hS; go_simp; with_reducible rfl); simp only [Act.put, List.setIfInBounds_toArray, List.set_cons_zero, List.set_cons_succ]) | (apply hO_ifcall; (· rfl); (· rfl); (· intro hif w hS; go_simp; exact ⟨rfl, rfl⟩); (· intro hif w hS; fail); simp only [Act.put, List.setIfInBounds_toArray, List.set_cons_zero, List.set_cons_succ]))); refine hO_nil ?_; refine hK _ ?_; clear hK K
            intro w3 hX3
            go_wp2_with (fail)
            go_ret
            exact ⟨rb (by rw [HF.out, modeB, e0]; rfl), hL.trans (hX3.below.mono hL.size)⟩
          | false =>
            cases e1 : t.mode == 1 with
            | true =>
              go_upto_region 14 with (fail)
              refine wp_region_all' (S := Ext W) hX2 (fun K hK => ?_); (repeat (first | (apply hO_and; (· rfl); (· rfl); (· rfl); (· rfl); simp only [Act.put, List.setIfInBounds_toArray, List.set_cons_zero, List.set_cons_succ]) | (apply hO_or; (· rfl); (· rfl); (· rfl); (· rfl); simp only [Act.put, List.setIfInBounds_toArray, List.set_cons_zero, List.set_cons_succ]) | (apply hO_off; (· rfl); (· rfl); simp only [Act.put, List.setIfInBounds_toArray, List.set_cons_zero, List.set_cons_succ]) | (apply hO_val; (· intro w hS; go_simp; with_reducible rfl); (· rfl); simp only [Act.put, List.setIfInBounds_toArray, List.set_cons_zero, List.set_cons_succ]) | (apply hO_call; (· rfl); (· intro w hS; go_simp; exact ⟨rfl, rfl⟩); (· intro w hS; exact callS hS (in_any _ _ _ _)); simp only [Act.put, List.setIfInBounds_toArray, List.set_cons_zero, List.set_cons_succ]) | (apply hO_if; (· rfl); (· rfl); (· intro hif w hS; go_simp; with_reducible rfl); simp only [Act.put, List.setIfInBounds_toArray, List.set_cons_zero, List.set_cons_succ]) | (apply hO_ifcall; (· rfl); (· rfl); (· intro hif w hS; go_simp; exact ⟨rfl, rfl⟩); (· intro hif w hS; exact callS hS (in_any _ _ _ _)); simp only [Act.put, List.setIfInBounds_toArray, List.set_cons_zero, List.set_cons_succ]))); refine hO_nil ?_; refine hK _ ?_; clear hK K
              intro w3 hX3
              go_wp2_with (fail)
              go_ret
              exact ⟨rb (by rw [HF.out, modeB, e0, e1]; rfl), hL.trans (hX3.below.mono hL.size)⟩
            | false =>
              cases e2 : t.mode == 2 with
              | true =>
                go_upto_region 16 with (fail)
                refine wp_region_all' (S := Ext W) hX2 (fun K hK => ?_); (repeat (first | (apply hO_and; (· rfl); (· rfl); (· rfl); (· rfl); simp only [Act.put, List.setIfInBounds_toArray, List.set_cons_zero, List.set_cons_succ]) | (apply hO_or; (· rfl); (· rfl); (· rfl); (· rfl); simp only [Act.put, List.setIfInBounds_toArray, List.set_cons_zero, List.set_cons_succ]) | (apply hO_off; (· rfl); (· rfl); simp only [Act.put, List.setIfInBounds_toArray, List.set_cons_zero, List.set_cons_succ]) | (apply hO_val; (· intro w hS; go_simp; with_reducible rfl); (· rfl); simp only [Act.put, List.setIfInBounds_toArray, List.set_cons_zero, List.set_cons_succ]) | (apply hO_call; (· rfl); (· intro w hS; go_simp; exact ⟨rfl, rfl⟩); (· intro w hS; fail); simp only [Act.put, List.setIfInBounds_toArray, List.set_cons_zero, List.set_cons_succ]) | (apply hO_if; (· rfl); (· rfl); (· intro hif w hS; go_simp; with_reducible rfl); simp only [Act.put, List.setIfInBounds_toArray, List.set_cons_zero, List.set_cons_succ]) | (apply hO_ifcall; (· rfl); (· rfl); (· intro hif w hS; go_simp; exact ⟨rfl, rfl⟩); (· intro hif w hS; fail); simp only [Act.put, List.setIfInBounds_toArray, List.set_cons_zero, List.set_cons_succ]))); refine hO_nil ?_; refine hK _ ?_; clear hK K
                intro w3 hX3
                go_wp2_with (fail)
                go_ret
                refine ⟨rb ?_, hL.trans (hX3.below.mono hL.size)⟩
                rw [HF.out, modeB, e0, e1, e2]
                simp only [cond_false, cond_true, Bool.and_assoc]
              | false =>
                go_wp2_with (fail)
                go_ret
                exact ⟨rb (by rw [HF.out, modeB, e0, e1, e2]; rfl), hL.trans (hX2.below.mono hL.size)⟩
end Go.Proofs.YtniejidekflmiaaGreatDoor
