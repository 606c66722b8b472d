/- The document's loads (ref10): may, sum, Least; resp.done. -/
import Derived.Test.YtknfdjnbndfboabGreatDoorProg
import Derived.Test.YtknfdjnbndfboabGreatDoorBase
import Derived.Test.YtknfdjnbndfboabGreatDoorHeldX
import Derived.Test.YtknfdjnbndfboabGreatDoorTsk1
import Derived.Test.YtknfdjnbndfboabGreatDoorTsk3
import Derived.Test.YtknfdjnbndfboabGreatDoorNumP
import Derived.Test.YtknfdjnbndfboabGreatDoorNum
import Derived.Test.YtknfdjnbndfboabGreatDoorLoadW
import Derived.Test.YtknfdjnbndfboabGreatDoorFix
import Derived.Deep.Cut
import Derived.Lib.Hide
import Derived.BigQuiet
namespace Go.Proofs.YtknfdjnbndfboabGreatDoor
open Go.RowKit
attribute [local go_sem] setCell_twice Ext.alloc Ext.drew
set_option linter.unusedSimpArgs false
set_option maxRecDepth 100000
set_option maxHeartbeats 6400000
attribute [local irreducible] topB

theorem done_any (base : Int) (l : List Ld) (n : Int) (v : Value) (w : World) (hv : Loads w v l) (hok : OkL base l) :
    Calls Tryz.prog 56 #[.int .i64 base, v, .int .i64 n] w fun e w' => e = .returned (.int .i64 (doneW base l n)) ∧ Below w.heap.size w w' := by
  go_enter Tryz.func56, Tryz.ntmps56
  go_wp2_with (fail)
  go_loopw [2] (fun i wr => ∃ m : Int, i = .int .i64 m ∧ doneW base l m = doneW base l n ∧ Ext w wr) (fun i _ => (1000001 - intOf i).toNat)
  case atStart => exact ⟨n, rfl, rfl, Ext.refl _⟩
  case round =>
    obtain ⟨m, rfl, hd, hX⟩ := hrel
    go_wp2_with (fail)
    refine (sumFixS_any base l m v _ (hv.ext hX) hok).mono ?_
    rintro e w1 ⟨rfl, hb⟩
    have hX1 := hX.call hb
    have hq : optN (bif topB m 0 then some (sumL base l m) else none) = .tuple #[.int .i64 (sumT base l m), .bool (topB m 0)] := by unfold sumT; cases topB m 0 <;> rfl
    rw [hq]
    have h1 := Lib.hid (fun h => doneW_here (base := base) (l := l) (w := m) h)
    have h2 := Lib.hid (fun h => doneW_next (base := base) (l := l) (w := m) h)
    have h3 := Lib.hid (fun h => sumT_up (base := base) (l := l) (w := m) h)
    clear hq
    generalize sumT base l m = s at h1 h2 h3 ⊢
    generalize topB m 0 = q
    by_cases he : s ≤ m
    · have h4 := Lib.hid (h1.out he)
      go_wp2_with (fail)
      go_ret
      exact ⟨by rw [← hd, h4.out]; rfl, hX1.below⟩
    · have h4 := Lib.hid (h2.out he)
      have h5 := h3.out he
      go_wp2_with (fail)
      exact ⟨⟨s, rfl, by rw [← h4.out]; exact hd, hX1⟩, h5⟩
def mayOdd (p : Ld) : Bool := decide (p.1 < 1) || decide (1000000 < p.1) || decide (p.2 < 0) || decide (1000000 < p.2)
theorem mayOdd_eq (p : Ld) : mayOdd p = ldOdd p := by
  rw [Bool.eq_iff_iff]
  simp only [mayOdd, ldOdd, Bool.or_eq_true, decide_eq_true_eq, Bool.not_eq_true', ← Bool.not_eq_true, topB_iff]
  omega
theorem may_out {base : Int} {l : List Ld} (h : (decide (base < 0) || decide (1000000 < base) || decide (64 < (l.length : Int))) = true) : okB base l = false := by
  cases hb : okB base l with
  | false => rfl
  | true =>
    have := okB_iff.1 hb
    have h1 := this.base0; have h2 := this.base1; have h3 := this.len
    simp only [Bool.or_eq_true, decide_eq_true_eq] at h
    omega
theorem may_in {base : Int} {l : List Ld} (h : (decide (base < 0) || decide (1000000 < base) || decide (64 < (l.length : Int))) = false) : okB base l = !l.any ldOdd := by
  simp only [Bool.or_eq_false_iff, decide_eq_false_iff_not] at h
  rw [← okB_any, show topB base 0 = true from topB_iff.2 (by omega), decide_eq_true (show (l.length : Int) ≤ 64 by omega)]
  rfl
theorem may_any (base : Int) (l : List Ld) (v : Value) (w : World) (hv : Loads w v l) :
    Calls Tryz.prog 62 #[.int .i64 base, v] w fun e w' => e = .returned (.bool (okB base l)) ∧ Below w.heap.size w w' := by
  have hv0 := hv
  have l1 := hv.len
  obtain ⟨A, c, rfl, _, _, _⟩ := hv0
  go_enter Tryz.func62, Tryz.ntmps62
  go_upto_region 1 with (fail)
  refine wp_region_all' (S := Ext w) (Ext.refl w) (fun K hK => ?_); (repeat (first | (apply hO_and; (· rfl); (· rfl); (· rfl); (· rfl); simp only [Act.put, List.setIfInBounds_toArray, List.set_cons_zero, List.set_cons_succ]) | (apply hO_or; (· rfl); (· rfl); (· rfl); (· rfl); simp only [Act.put, List.setIfInBounds_toArray, List.set_cons_zero, List.set_cons_succ]) | (apply hO_off; (· rfl); (· rfl); simp only [Act.put, List.setIfInBounds_toArray, List.set_cons_zero, List.set_cons_succ]) | (apply hO_val; (· intro w hS; go_simp; with_reducible rfl); (· rfl); simp only [Act.put, List.setIfInBounds_toArray, List.set_cons_zero, List.set_cons_succ]) | (apply hO_call; (· rfl); (· intro w hS; go_simp; exact ⟨rfl, rfl⟩); (· intro w hS; fail); simp only [Act.put, List.setIfInBounds_toArray, List.set_cons_zero, List.set_cons_succ]) | (apply hO_if; (· rfl); (· rfl); (· intro hif w hS; go_simp; with_reducible rfl); simp only [Act.put, List.setIfInBounds_toArray, List.set_cons_zero, List.set_cons_succ]) | (apply hO_ifcall; (· rfl); (· rfl); (· intro hif w hS; go_simp; exact ⟨rfl, rfl⟩); (· intro hif w hS; fail); simp only [Act.put, List.setIfInBounds_toArray, List.set_cons_zero, List.set_cons_succ]))); refine hO_nil ?_; refine forget_range 6 10 (Nat.le_of_ble_eq_true rfl) (fun junk => ?_); simp only [List.take_succ_cons, List.take_zero, List.drop_succ_cons, List.drop_zero, List.cons_append, List.nil_append, fillF, Nat.reduceAdd]; refine hK _ ?_; clear hK K
  intro w1 hX1
  cases hb : (decide (base < 0) || decide (1000000 < base) || decide (64 < (l.length : Int))) with
  | true =>
    have h1 := Lib.hid (may_out hb)
    go_wp2_with (fail)
    go_ret
    exact ⟨rb h1.out.symm, hX1.below⟩
  | false =>
    have h1 := Lib.hid (may_in hb)
    clear hb
    go_wp2_with (fail)
    go_loopw [5] (fun i wr => ∃ k : Nat, k ≤ l.length ∧ i = .int .i64 k ∧ Hid ((l.take k).any ldOdd = false) ∧ Ext w wr) (fun i _ => l.length - (intOf i).toNat)
    case atStart => exact ⟨0, Nat.zero_le _, rfl, Lib.hid rfl, hX1⟩
    case round =>
      obtain ⟨k, hk, rfl, ht, hX⟩ := hrel
      by_cases hlt : k < l.length
      · obtain ⟨b, o, rfl, hx, hy⟩ := hv.at hlt
        have h2 := Lib.hid (fun h => any_step hlt ht.out h)
        have h3 := Lib.hid (fun h => any_at hlt h)
        generalize l[k] = x at hx hy h2 h3
        go_upto_region 6 with (fail)
        refine wp_region_all' (S := Ext w) hX (fun K hK => ?_); (repeat (first | (apply hO_and; (· rfl); (· rfl); (· rfl); (· rfl); simp only [Act.put, List.setIfInBounds_toArray, List.set_cons_zero, List.set_cons_succ]) | (apply hO_or; (· rfl); (· rfl); (· rfl); (· rfl); simp only [Act.put, List.setIfInBounds_toArray, List.set_cons_zero, List.set_cons_succ]) | (apply hO_off; (· rfl); (· rfl); simp only [Act.put, List.setIfInBounds_toArray, List.set_cons_zero, List.set_cons_succ]) | (apply hO_val; (· intro w hS; go_simp; with_reducible rfl); (· rfl); simp only [Act.put, List.setIfInBounds_toArray, List.set_cons_zero, List.set_cons_succ]) | (apply hO_call; (· rfl); (· intro w hS; go_simp; exact ⟨rfl, rfl⟩); (· intro w hS; fail); simp only [Act.put, List.setIfInBounds_toArray, List.set_cons_zero, List.set_cons_succ]) | (apply hO_if; (· rfl); (· rfl); (· intro hif w hS; go_simp; with_reducible rfl); simp only [Act.put, List.setIfInBounds_toArray, List.set_cons_zero, List.set_cons_succ]) | (apply hO_ifcall; (· rfl); (· rfl); (· intro hif w hS; go_simp; exact ⟨rfl, rfl⟩); (· intro hif w hS; fail); simp only [Act.put, List.setIfInBounds_toArray, List.set_cons_zero, List.set_cons_succ]))); refine hO_nil ?_; refine forget_range 23 29 (Nat.le_of_ble_eq_true rfl) (fun junk => ?_); simp only [List.take_succ_cons, List.take_zero, List.drop_succ_cons, List.drop_zero, List.cons_append, List.nil_append, fillF, Nat.reduceAdd]; refine hK _ ?_; clear hK K
        intro w2 hX2
        have e : (decide (x.1 < 1) || decide (1000000 < x.1) || decide (x.2 < 0) || decide (1000000 < x.2)) = ldOdd x := mayOdd_eq x
        rw [e]
        cases hq : ldOdd x with
        | true =>
          have h4 := h3.out hq
          have h5 := h1.out
          rw [h4] at h5
          have H5 := Lib.hid h5
          clear h4 h5 hq e
          go_wp2_with (fail)
          go_ret
          exact ⟨rb H5.out.symm, hX2.below⟩
        | false =>
          have h4 := Lib.hid (h2.out hq)
          clear hq e
          go_wp2_with (fail)
          exact ⟨⟨k + 1, hlt, rfl, h4, hX2⟩, by simp [intOf]; omega⟩
      · obtain rfl : k = l.length := by omega
        have h4 := ht.out
        rw [List.take_length] at h4
        have h5 := h1.out
        rw [h4] at h5
        have H5 := Lib.hid h5
        clear h4 h5
        go_wp2_with (fail)
        go_ret
        exact ⟨rb H5.out.symm, hX.below⟩
theorem sum10_any (base : Int) (l : List Ld) (n : Int) (v : Value) (w : World) (hv : Loads w v l) (hok : OkL base l) (hn : 0 ≤ n ∧ n ≤ 1000000) :
    Calls Tryz.prog 63 #[.int .i64 base, v, .int .i64 n] w fun e w' => e = .returned (.int .i64 (sumL base l n)) ∧ Below w.heap.size w w' := by
  have l1 := hv.len
  have hv0 := hv
  obtain ⟨A, c, rfl, _, _, _⟩ := hv0
  have hB := Lib.hid (sum_bound hok hn)
  have h64 := hok.len
  have hb1 := hok.base1
  have hb0 := hok.base0
  have hE := Lib.hid hok.each
  have hS := Lib.hid fun k h => sumL_step base l n (k := k) h
  go_enter Tryz.func63, Tryz.ntmps63
  go_wp2_with (fail)
  go_loopw [7, 8] (fun acc i wr => ∃ k : Nat, k ≤ l.length ∧ acc = .int .i64 (sumL base (l.take k) n) ∧ i = .int .i64 k ∧ Ext w wr) (fun _ i _ => l.length - (intOf i).toNat)
  case atStart => exact ⟨0, Nat.zero_le _, by rw [List.take_zero, sumL_nil], rfl, Ext.refl _⟩
  case round =>
    obtain ⟨k, hk, rfl, rfl, hX⟩ := hrel
    by_cases hlt : k < l.length
    · obtain ⟨b, o, rfl, hx, hy⟩ := hv.at hlt
      have h1 := hE.out _ (List.getElem_mem hlt)
      have h2 := hS.out k hlt
      have h3 := hB.out k
      have h6 := term_bound hn h1
      have h7 := ceil_nonneg hn.1 h1.1.1
      have h8 := ceil_self hn.1 h1.1.1
      have h9 := ceil_doc hn.1 h1.1.1
      rw [Nat.min_eq_left (by omega)] at h3
      unfold termL at h2 h6
      generalize l[k] = x at hx hy h1 h2 h6 h7 h8 h9
      obtain ⟨T, C⟩ := x
      dsimp only at *
      have ht : (n + T - 1).tdiv T = (n + T - 1) / T := Int.tdiv_eq_ediv_of_nonneg (by omega)
      rw [h9] at ht
      generalize hq : ceilF n T = q at *
      rw [Int.mul_comm] at h2 h6
      generalize hm : q * C = m at *
      generalize hs : sumL base (l.take k) n = s at *
      have H2 := Lib.hid h2
      clear h2 h9
      have w1 : IntKind.i64.wrap (n + T) = n + T := by rw [IntKind.wrap_i64]; omega
      have w2 : IntKind.i64.wrap (n + T - 1) = n + T - 1 := by rw [IntKind.wrap_i64]; omega
      have w3 : IntKind.i64.wrap q = q := by rw [IntKind.wrap_i64]; omega
      have w4 : IntKind.i64.wrap m = m := by rw [IntKind.wrap_i64]; omega
      have w5 : IntKind.i64.wrap (s + m) = s + m := by rw [IntKind.wrap_i64]; omega
      have hT0 : ¬ T = 0 := by omega
      go_upto_region 5 with (fail)
      have hxx := hx wr hX
      have hyy := hy wr hX
      go_quiet (fail)
      go_wp2_with (fail)
      exact ⟨⟨k + 1, hlt, by rw [H2.out], rfl, ⟨Go.Proofs.YtknfdjnbndfboabGreatDoor.below_drewN hX.below _⟩⟩, by simp [intOf]; omega⟩
    · obtain rfl : k = l.length := by omega
      rw [List.take_length]
      go_wp2_with (fail)
      go_ret
      exact ⟨rfl, hX.below⟩
theorem least10_any (base : Int) (l : List Ld) (v : Value) (w : World) (hv : Loads w v l) :
    Calls Tryz.prog 49 #[.int .i64 base, v] w fun e w' => e = .returned (optN (least base l)) ∧ Below w.heap.size w w' := by
  go_enter Tryz.func49, Tryz.ntmps49
  go_wp2_with (fail)
  refine (may_any base l v _ hv).mono ?_
  rintro e w1 ⟨rfl, hb⟩
  cases hok : okB base l with
  | false =>
    go_wp2_with (fail)
    exact bodyPost_ret (v := optN none) (by simp [optN, results, Tryz.results49, go_sem, *]) rfl ⟨by unfold least; rw [hok]; rfl, hb⟩
  | true =>
    have hl : leastW base l 1 = least base l := by unfold least; rw [hok]; rfl
    go_wp2_with (fail)
    go_loopw [6] (fun i wr => ∃ n : Int, i = .int .i64 n ∧ 0 ≤ n ∧ (n ≤ 1000000 → leastW base l n = least base l) ∧ (1000000 < n → least base l = none) ∧ Ext w wr) (fun i _ => (1000001 - intOf i).toNat)
    case atStart => exact ⟨1, rfl, by omega, fun _ => hl, fun h => by omega, ⟨hb⟩⟩
    case round =>
      obtain ⟨n, rfl, h0, hl1, hl2, hX⟩ := hrel
      have HL1 := Lib.hid hl1; clear hl1
      have HL2 := Lib.hid hl2; clear hl2 hl
      by_cases hle : n ≤ 1000000
      · go_wp2_with (fail)
        refine (sum10_any base l n v _ (hv.ext hX) (okB_iff.1 hok) ⟨h0, hle⟩).mono ?_
        rintro e w2 ⟨rfl, hb2⟩
        have hX2 := hX.call hb2
        have hs0 := (sum_bound (w := n) (okB_iff.1 hok) ⟨h0, hle⟩ l.length).1
        rw [List.take_length] at hs0
        have hb0 := (okB_iff.1 hok).base0
        generalize hs : sumL base l n = s at *
        by_cases he : s = n
        · have hr := Lib.hid (leastW_here (hs.trans he))
          go_wp2_with (fail)
          exact bodyPost_ret (v := optN (some n)) (by simp [optN, results, Tryz.results49, go_sem, *]) rfl ⟨by rw [← HL1.out hle, hr.out], hX2.below⟩
        · by_cases h2 : s < n
          · have hr := Lib.hid (leastW_none (by rw [hs]; exact he) (.inl (by rw [hs]; exact h2)))
            go_wp2_with (fail)
            exact bodyPost_ret (v := optN none) (by simp [optN, results, Tryz.results49, go_sem, *]) rfl ⟨by rw [← HL1.out hle, hr.out], hX2.below⟩
          · have hR1 := Lib.hid (fun (h3 : s ≤ 1000000) => (leastW_next (base := base) (l := l) (w := n) (by rw [hs]; exact he) (by rw [hs]; omega)).symm.trans (HL1.out hle))
            have hR2 := Lib.hid (fun (h3 : 1000000 < s) => (HL1.out hle).symm.trans (leastW_none (base := base) (l := l) (w := n) (by rw [hs]; exact he) (.inr (by rw [hs]; exact h3))))
            go_wp2_with (fail)
            exact ⟨⟨s, rfl, by omega, fun h => (by have := hR1.out h; rw [hs] at this; exact this), fun h => hR2.out h, hX2⟩, by show (1000001 - s).toNat < (1000001 - n).toNat; omega⟩
      · have h3 := Lib.hid (HL2.out (by omega))
        go_wp2_with (fail)
        exact bodyPost_ret (v := optN none) (by simp [optN, results, Tryz.results49, go_sem, *]) rfl ⟨by rw [h3.out], hX.below⟩
end Go.Proofs.YtknfdjnbndfboabGreatDoor
