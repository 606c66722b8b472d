/- fix: isTop, is, sum, Sum, Least. -/
import Derived.Test.YtknfdjnbndfboabGreatDoorProg
import Derived.Test.YtknfdjnbndfboabGreatDoorBase
import Derived.Test.YtknfdjnbndfboabGreatDoorHeldX
import Derived.Test.YtknfdjnbndfboabGreatDoorTsk1
import Derived.Test.YtknfdjnbndfboabGreatDoorTsk3
import Derived.Test.YtknfdjnbndfboabGreatDoorNumP
import Derived.Test.YtknfdjnbndfboabGreatDoorNum
import Derived.Test.YtknfdjnbndfboabGreatDoorLoadW
import Derived.Deep.Cut
import Derived.Lib.Hide
import Derived.WalkMore
import Derived.ScopeJumps
namespace Go.Proofs.YtknfdjnbndfboabGreatDoor
open Go.RowKit
attribute [local go_sem] setCell_twice Ext.alloc Ext.drew
set_option linter.unusedSimpArgs false
set_option maxRecDepth 100000
set_option maxHeartbeats 6400000
attribute [local irreducible] topB

theorem isTop_any (n least : Int) (w : World) : Calls Tryz.prog 82 #[.int .i64 n, .int .i64 least] w fun e w' => e = .returned (.bool (topB n least)) ∧ w = w' := by
  go_enter Tryz.func82, Tryz.ntmps82
  go_upto_region 1 with (fail)
  refine wp_region_all' (S := (· = w)) rfl (fun K hK => ?_); (repeat (first | (apply hO_and; (· rfl); (· rfl); (· rfl); (· rfl); simp only [Act.put, List.setIfInBounds_toArray, List.set_cons_zero, List.set_cons_succ]) | (apply hO_or; (· rfl); (· rfl); (· rfl); (· rfl); simp only [Act.put, List.setIfInBounds_toArray, List.set_cons_zero, List.set_cons_succ]) | (apply hO_off; (· rfl); (· rfl); simp only [Act.put, List.setIfInBounds_toArray, List.set_cons_zero, List.set_cons_succ]) | (apply hO_val; (· intro w hS; go_simp; with_reducible rfl); (· rfl); simp only [Act.put, List.setIfInBounds_toArray, List.set_cons_zero, List.set_cons_succ]) | (apply hO_call; (· rfl); (· intro w hS; go_simp; exact ⟨rfl, rfl⟩); (· intro w hS; fail); simp only [Act.put, List.setIfInBounds_toArray, List.set_cons_zero, List.set_cons_succ]) | (apply hO_if; (· rfl); (· rfl); (· intro hif w hS; go_simp; with_reducible rfl); simp only [Act.put, List.setIfInBounds_toArray, List.set_cons_zero, List.set_cons_succ]) | (apply hO_ifcall; (· rfl); (· rfl); (· intro hif w hS; go_simp; exact ⟨rfl, rfl⟩); (· intro hif w hS; fail); simp only [Act.put, List.setIfInBounds_toArray, List.set_cons_zero, List.set_cons_succ]))); refine hO_nil ?_; refine hK _ ?_; clear hK K
  rintro _ rfl
  rw [topB_eq]
  go_wp2_with (fail)
  go_ret
  exact ⟨rfl, rfl⟩
def ldOdd (p : Ld) : Bool := !topB p.1 1 || !topB p.2 0
theorem isLd_any (p : Ld) (w : World) : Calls Tryz.prog 91 #[.agg #[.int .i64 p.1, .int .i64 p.2]] w fun e w' => e = .returned (.bool (ldOdd p)) ∧ Below w.heap.size w w' := by
  go_enter Tryz.func91, Tryz.ntmps91
  go_upto_region 1 with (fail)
  have hL : Below w.heap.size w (w.alloc (.cells #[.int .i64 p.1, .int .i64 p.2] 79)) := (by repeat (first | exact Below.refl _ _ | assumption | refine Below.drew ?_ | refine Below.alloc ?_ (by first | (simp; done) | (simp; omega) | omega) _ | refine Below.setCell ?_ (by first | (simp; done) | (simp; omega) | omega) _)); have hB : Blk (w.alloc (.cells #[.int .i64 p.1, .int .i64 p.2] 79)) w.heap.size #[.int .i64 p.1, .int .i64 p.2] 79 := Blk.new _ _ _
  generalize w.alloc _ = W at hL hB  ⊢
  have hc := hB.under
  refine wp_region_all' (S := Ext W) (Ext.refl W) (fun K hK => ?_); (repeat (first | (apply hO_and; (· rfl); (· rfl); (· rfl); (· rfl); simp only [Act.put, List.setIfInBounds_toArray, List.set_cons_zero, List.set_cons_succ]) | (apply hO_or; (· rfl); (· rfl); (· rfl); (· rfl); simp only [Act.put, List.setIfInBounds_toArray, List.set_cons_zero, List.set_cons_succ]) | (apply hO_off; (· rfl); (· rfl); simp only [Act.put, List.setIfInBounds_toArray, List.set_cons_zero, List.set_cons_succ]) | (apply hO_val; (· intro w hS; go_simp; with_reducible rfl); (· rfl); simp only [Act.put, List.setIfInBounds_toArray, List.set_cons_zero, List.set_cons_succ]) | (apply hO_call; (· rfl); (· intro w hS; go_simp; exact ⟨rfl, rfl⟩); (· intro w hS; exact callS hS (isTop_any _ _ _)); simp only [Act.put, List.setIfInBounds_toArray, List.set_cons_zero, List.set_cons_succ]) | (apply hO_if; (· rfl); (· rfl); (· intro hif w hS; go_simp; with_reducible rfl); simp only [Act.put, List.setIfInBounds_toArray, List.set_cons_zero, List.set_cons_succ]) | (apply hO_ifcall; (· rfl); (· rfl); (· intro hif w hS; go_simp; exact ⟨rfl, rfl⟩); (· intro hif w hS; exact callS hS (isTop_any _ _ _)); simp only [Act.put, List.setIfInBounds_toArray, List.set_cons_zero, List.set_cons_succ]))); refine hO_nil ?_; refine hK _ ?_; clear hK K
  intro w1 hX1
  go_wp2_with (fail)
  go_ret
  exact ⟨rfl, hL.trans (hX1.below.mono hL.size)⟩
theorem any_step {l : List Ld} {k : Nat} (h : k < l.length) (h0 : (l.take k).any ldOdd = false) (h1 : ldOdd l[k] = false) : (l.take (k + 1)).any ldOdd = false := by
  rw [List.take_succ_eq_append_getElem h, List.any_append, h0]
  simp [h1]
theorem any_at {l : List Ld} {k : Nat} (h : k < l.length) (h1 : ldOdd l[k] = true) : l.any ldOdd = true := List.any_eq_true.2 ⟨_, List.getElem_mem h, h1⟩
theorem indexLd_any (l : List Ld) (v : Value) (w : World) (hv : Loads w v l) :
    Calls Tryz.prog 100 #[v, .func (.func 91) #[] #[]] w fun e w' => ∃ i : Int, e = .returned (.int .i64 i) ∧ decide (0 ≤ i) = l.any ldOdd ∧ Below w.heap.size w w' := by
  have l1 := hv.len
  have hv0 := hv
  obtain ⟨A, c, rfl, _, _, _⟩ := hv0
  go_enter Tryz.func100, Tryz.ntmps100
  go_wp2_with (fail)
  go_loopw [8] (fun i wr => ∃ k : Nat, k ≤ l.length ∧ i = .int .i64 k ∧ Hid ((l.take k).any ldOdd = false) ∧ Ext w wr) (fun i _ => l.length - (intOf i).toNat)
  case atStart => exact ⟨0, Nat.zero_le _, rfl, Lib.hid rfl, Ext.refl _⟩
  case round =>
    obtain ⟨k, hk, rfl, ht, hX⟩ := hrel
    by_cases hlt : k < l.length
    · obtain ⟨b, o, rfl, hx, hy⟩ := hv.at hlt
      have h1 := Lib.hid (fun h => any_step hlt ht.out h)
      have h2 := Lib.hid (fun h => any_at hlt h)
      generalize l[k] = x at hx hy h1 h2
      go_wp2_with (fail)
      refine (isLd_any x _).mono ?_
      rintro e w1 ⟨rfl, hb⟩
      have hX1 := hX.call hb
      clear hb hX
      cases hq : ldOdd x with
      | true =>
        go_wp2_with (fail)
        go_ret
        exact ⟨_, rfl, by rw [h2.out hq]; simp, hX1.below⟩
      | false =>
        have h3 := Lib.hid (h1.out hq)
        go_wp2_with (fail)
        exact ⟨⟨k + 1, hlt, rfl, h3, hX1⟩, by simp [intOf]; omega⟩
    · obtain rfl : k = l.length := by omega
      have h3 := ht.out
      rw [List.take_length] at h3
      have h4 := Lib.hid h3
      clear h3
      go_wp2_with (fail)
      go_ret
      exact ⟨_, rfl, by rw [h4.out]; rfl, hX.below⟩
theorem containsLd_any (l : List Ld) (v : Value) (w : World) (hv : Loads w v l) :
    Calls Tryz.prog 90 #[v, .func (.func 91) #[] #[]] w fun e w' => e = .returned (.bool (l.any ldOdd)) ∧ Below w.heap.size w w' := by
  go_enter Tryz.func90, Tryz.ntmps90
  go_wp2_with (fail)
  refine (indexLd_any l v _ hv).mono ?_
  rintro e w1 ⟨i, rfl, hi, hb⟩
  have hI := Lib.hid hi
  clear hi
  go_wp2_with (fail)
  go_ret
  exact ⟨rb hI.out, hb⟩
theorem okB_any (base : Int) (l : List Ld) : (topB base 0 && decide ((l.length : Int) ≤ 64) && !l.any ldOdd) = okB base l := by
  unfold okB
  have h1 : decide ((l.length : Int) ≤ 64) = decide (l.length ≤ 64) := by rw [Bool.eq_iff_iff, decide_eq_true_eq, decide_eq_true_eq]; omega
  have h2 : (!l.any ldOdd) = l.all (fun p => topB p.1 1 && topB p.2 0) := by
    rw [List.not_any_eq_all_not]
    congr 1
    funext p
    simp [ldOdd]
  rw [h1, h2]
theorem isFix_any (base : Int) (l : List Ld) (v : Value) (w : World) (hv : Loads w v l) :
    Calls Tryz.prog 76 #[.int .i64 base, v] w fun e w' => e = .returned (.bool (okB base l)) ∧ Below w.heap.size w w' := by
  have hv0 := hv
  have l1 := hv.len
  obtain ⟨A, c, rfl, _, _, _⟩ := hv0
  go_enter Tryz.func76, Tryz.ntmps76
  go_upto_region 1 with (fail)
  refine wp_region_all' (S := Ext w) (Ext.refl w) (fun K hK => ?_); (repeat (first | (apply hO_and; (· rfl); (· rfl); (· rfl); (· rfl); simp only [Act.put, List.setIfInBounds_toArray, List.set_cons_zero, List.set_cons_succ]) | (apply hO_or; (· rfl); (· rfl); (· rfl); (· rfl); simp only [Act.put, List.setIfInBounds_toArray, List.set_cons_zero, List.set_cons_succ]) | (apply hO_off; (· rfl); (· rfl); simp only [Act.put, List.setIfInBounds_toArray, List.set_cons_zero, List.set_cons_succ]) | (apply hO_val; (· intro w hS; go_simp; with_reducible rfl); (· rfl); simp only [Act.put, List.setIfInBounds_toArray, List.set_cons_zero, List.set_cons_succ]) | (apply hO_call; (· rfl); (· intro w hS; go_simp; exact ⟨rfl, rfl⟩); (· intro w hS; first | exact callS hS (isTop_any _ _ _) | exact callX hS (containsLd_any l _ _ (hv.ext hS))); simp only [Act.put, List.setIfInBounds_toArray, List.set_cons_zero, List.set_cons_succ]) | (apply hO_if; (· rfl); (· rfl); (· intro hif w hS; go_simp; with_reducible rfl); simp only [Act.put, List.setIfInBounds_toArray, List.set_cons_zero, List.set_cons_succ]) | (apply hO_ifcall; (· rfl); (· rfl); (· intro hif w hS; go_simp; exact ⟨rfl, rfl⟩); (· intro hif w hS; first | exact callS hS (isTop_any _ _ _) | exact callX hS (containsLd_any l _ _ (hv.ext hS))); simp only [Act.put, List.setIfInBounds_toArray, List.set_cons_zero, List.set_cons_succ]))); refine hO_nil ?_; refine hK _ ?_; clear hK K
  intro w1 hX1
  rw [okB_any]
  go_wp2_with (fail)
  go_ret
  exact ⟨rfl, hX1.below⟩
theorem ceil_pair {n : Int} {p : Ld} (hn : 0 ≤ n ∧ n ≤ 1000000) (hp : (1 ≤ p.1 ∧ p.1 ≤ 1000000) ∧ 0 ≤ p.2 ∧ p.2 ≤ 1000000) : pairN (ceilF n p.1) (isN n && isN p.1 && !(p.1 == 0)) = .tuple #[.int .i64 (ceilF n p.1), .bool true] := by
  rw [isN_iff.2 (by omega), isN_iff.2 (by omega), show (p.1 == 0) = false by simp; omega]
  rfl
theorem sumFix_any (base : Int) (l : List Ld) (n : Int) (v : Value) (w : World) (hv : Loads w v l) (hok : OkL base l) (hn : 0 ≤ n ∧ n ≤ 1000000) :
    Calls Tryz.prog 77 #[.int .i64 base, v, .int .i64 n] w fun e w' => e = .returned (.int .i64 (sumL base l n)) ∧ Below w.heap.size w w' := by
  have l1 := hv.len
  have hv0 := hv
  obtain ⟨A, c, rfl, _, _, _⟩ := hv0
  have hB := Lib.hid (sum_bound hok hn)
  have h64 := hok.len
  have hb1 := hok.base1
  have hb0 := hok.base0
  have hE := Lib.hid hok.each
  have hS := Lib.hid fun k h => sumL_step base l n (k := k) h
  go_enter Tryz.func77, Tryz.ntmps77
  go_wp2_with (fail)
  go_loopw [0, 13] (fun acc i wr => ∃ k : Nat, k ≤ l.length ∧ acc = .int .i64 (sumL base (l.take k) n) ∧ i = .int .i64 k ∧ Ext w wr) (fun _ i _ => l.length - (intOf i).toNat)
  case atStart => exact ⟨0, Nat.zero_le _, by rw [List.take_zero, sumL_nil], rfl, Ext.refl _⟩
  case round =>
    obtain ⟨k, hk, rfl, rfl, hX⟩ := hrel
    by_cases hlt : k < l.length
    · obtain ⟨b, o, rfl, hx, hy⟩ := hv.at hlt
      have h1 := hE.out _ (List.getElem_mem hlt)
      have h2 := hS.out k hlt
      have h3 := hB.out k
      have h5 := ceil_pair hn h1
      have h6 := term_bound hn h1
      have h7 := ceil_nonneg hn.1 h1.1.1
      have h8 := ceil_self hn.1 h1.1.1
      rw [Nat.min_eq_left (by omega)] at h3
      unfold termL at h2 h6
      generalize l[k] = x at hx hy h1 h2 h5 h6 h7 h8
      obtain ⟨T, C⟩ := x
      dsimp only at *
      generalize hq : ceilF n T = q at *
      generalize hm : C * q = m at *
      generalize hs : sumL base (l.take k) n = s at *
      have H2 := Lib.hid h2
      have H5 := Lib.hid h5
      clear h2 h5
      go_wp2_with (fail)
      refine (numCeil_any n T _).mono ?_
      rintro e w1 ⟨rfl, rfl⟩
      rw [hq, H5.out]
      go_wp2_with (fail)
      exact ⟨⟨k + 1, hlt, by rw [H2.out], rfl, hX.alloc _⟩, by simp [intOf]; omega⟩
    · obtain rfl : k = l.length := by omega
      rw [List.take_length]
      go_wp2_with (fail)
      go_ret
      exact ⟨rfl, hX.below⟩
theorem sumFixS_any (base : Int) (l : List Ld) (n : Int) (v : Value) (w : World) (hv : Loads w v l) (hok : OkL base l) :
    Calls Tryz.prog 70 #[.int .i64 base, v, .int .i64 n] w fun e w' => e = .returned (optN (bif topB n 0 then some (sumL base l n) else none)) ∧ Below w.heap.size w w' := by
  go_enter Tryz.func70, Tryz.ntmps70
  go_upto_region 1 with (fail)
  refine wp_region_all' (S := Ext w) (Ext.refl w) (fun K hK => ?_); (repeat (first | (apply hO_and; (· rfl); (· rfl); (· rfl); (· rfl); simp only [Act.put, List.setIfInBounds_toArray, List.set_cons_zero, List.set_cons_succ]) | (apply hO_or; (· rfl); (· rfl); (· rfl); (· rfl); simp only [Act.put, List.setIfInBounds_toArray, List.set_cons_zero, List.set_cons_succ]) | (apply hO_off; (· rfl); (· rfl); simp only [Act.put, List.setIfInBounds_toArray, List.set_cons_zero, List.set_cons_succ]) | (apply hO_val; (· intro w hS; go_simp; with_reducible rfl); (· rfl); simp only [Act.put, List.setIfInBounds_toArray, List.set_cons_zero, List.set_cons_succ]) | (apply hO_call; (· rfl); (· intro w hS; go_simp; exact ⟨rfl, rfl⟩); (· intro w hS; first | exact callS hS (isTop_any _ _ _) | exact callX hS (isFix_any base l _ _ (hv.ext hS))); simp only [Act.put, List.setIfInBounds_toArray, List.set_cons_zero, List.set_cons_succ]) | (apply hO_if; (· rfl); (· rfl); (· intro hif w hS; go_simp; with_reducible rfl); simp only [Act.put, List.setIfInBounds_toArray, List.set_cons_zero, List.set_cons_succ]) | (apply hO_ifcall; (· rfl); (· rfl); (· intro hif w hS; go_simp; exact ⟨rfl, rfl⟩); (· intro hif w hS; first | exact callS hS (isTop_any _ _ _) | exact callX hS (isFix_any base l _ _ (hv.ext hS))); simp only [Act.put, List.setIfInBounds_toArray, List.set_cons_zero, List.set_cons_succ]))); refine hO_nil ?_; refine hK _ ?_; clear hK K
  intro w1 hX1
  rw [okB_iff.2 hok]
  cases hb : topB n 0 with
  | true =>
    have hs := Lib.hid fun W hW => sumFix_any base l n v W hW hok (topB_iff.1 hb)
    go_wp2_with (fail)
    refine (callX hX1 (hs.out _ (hv.ext hX1))).mono ?_
    rintro e w2 ⟨rfl, hX2⟩
    go_wp2_with (fail)
    exact bodyPost_ret (v := optN (some (sumL base l n))) (by simp [optN, results, Tryz.results70, go_sem, *]) rfl ⟨by rw [hb]; rfl, hX2.below⟩
  | false =>
    go_wp2_with (fail)
    exact bodyPost_ret (v := optN none) (by simp [optN, results, Tryz.results70, go_sem, *]) rfl ⟨by rw [hb]; rfl, hX1.below⟩
theorem leastFix_any (base : Int) (l : List Ld) (v : Value) (w : World) (hv : Loads w v l) :
    Calls Tryz.prog 67 #[.int .i64 base, v] w fun e w' => e = .returned (optN (least base l)) ∧ Below w.heap.size w w' := by
  go_enter Tryz.func67, Tryz.ntmps67
  go_wp2_with (fail)
  have one : okB base l = true → sumL base l 1 = sumL base l 1 := fun _ => rfl
  refine wp_scope_jumps 0 (fun a' w' => Ext w w' ∧ ∃ (n : Int) (u7 u8 u9 u10 u11 u12 u13 u14 u15 u16 u17 u18 u19 u20 u21 u22 u23 u24 u25 u26 u27 : Value), a' = { tmps := #[.int .i64 base, v, undef, undef, .int .i64 0, .bool false, .int .i64 n, u7, u8, u9, u10, u11, u12, u13, u14, u15, u16, u17, u18, u19, u20, u21, u22, u23, u24, u25, u26, u27], defers := [] } ∧ (0 ≤ n ∧ n ≤ 1000000) ∧ leastW base l n = least base l ∧ okB base l = true) (fun a' _ => (1000001 - intOf (a'.tmps.getD 6 undef)).toNat) rfl ?_ ?_
  · go_wp2_with (fail)
    refine (isFix_any base l v _ hv).mono ?_
    rintro e w1 ⟨rfl, hb⟩
    cases hok : okB base l with
    | false =>
      go_wp2_with (fail)
      simp only [Exit.jump]
      exact bodyPost_ret (v := optN none) (by simp [optN, results, Tryz.results67, go_sem, *]) rfl ⟨by unfold least; rw [hok]; rfl, hb⟩
    | true =>
      go_wp2_with (fail)
      go_step3
      go_wp2_with (fail)
      have hl : leastW base l 1 = least base l := by unfold least; rw [hok]; rfl
      have hX1 : Ext w w1 := ⟨hb⟩
      refine (sumFix_any base l 1 v _ (hv.ext hX1) (okB_iff.1 hok) ⟨by omega, by omega⟩).mono ?_
      rintro e w2 ⟨rfl, hb2⟩
      have hX2 := hX1.call hb2
      have h0 := (sum_bound (w := 1) (okB_iff.1 hok) ⟨by omega, by omega⟩ l.length).1
      rw [List.take_length] at h0
      have hb0 := (okB_iff.1 hok).base0
      generalize hs : sumL base l 1 = s at *
      by_cases he : s = 1
      · have hr := Lib.hid (leastW_here (hs.trans he))
        go_wp2_with (fail)
        simp only [Exit.jump]
        exact bodyPost_ret (v := optN (some 1)) (by simp [optN, results, Tryz.results67, go_sem, *]) rfl ⟨by rw [← hl, hr.out], hX2.below⟩
      · by_cases h2 : s < 1
        · have hr := Lib.hid (leastW_none (by rw [hs]; exact he) (.inl (by rw [hs]; exact h2)))
          go_wp2_with (fail)
          simp only [Exit.jump]
          exact bodyPost_ret (v := optN none) (by simp [optN, results, Tryz.results67, go_sem, *]) rfl ⟨by rw [← hl, hr.out], hX2.below⟩
        · by_cases h3 : 1000000 < s
          · have hr := Lib.hid (leastW_none (by rw [hs]; exact he) (.inr (by rw [hs]; exact h3)))
            go_wp2_with (fail)
            simp only [Exit.jump]
            exact bodyPost_ret (v := optN none) (by simp [optN, results, Tryz.results67, go_sem, *]) rfl ⟨by rw [← hl, hr.out], hX2.below⟩
          · have hr := leastW_next (by rw [hs]; exact he) (by rw [hs]; omega)
            rw [hs] at hr
            have hR := Lib.hid hr
            clear hr
            go_wp2_with (fail)
            go_step3
            exact ⟨rfl, ⟨hX2, s, _, _, _, _, _, _, _, _, _, _, _, _, _, _, _, _, _, _, _, _, _, rfl, ⟨by omega, by omega⟩, by rw [← hR.out]; exact hl, hok⟩⟩
  · rintro a' w' ⟨hX, n, u7, u8, u9, u10, u11, u12, u13, u14, u15, u16, u17, u18, u19, u20, u21, u22, u23, u24, u25, u26, u27, rfl, hn, hl, hok⟩
    go_wp2_with (fail)
    refine (sumFix_any base l n v _ (hv.ext hX) (okB_iff.1 hok) hn).mono ?_
    rintro e w2 ⟨rfl, hb2⟩
    have hX2 := hX.call hb2
    have h0 := (sum_bound (okB_iff.1 hok) hn l.length).1
    rw [List.take_length] at h0
    have hb0 := (okB_iff.1 hok).base0
    generalize hs : sumL base l n = s at *
    by_cases he : s = n
    · have hr := Lib.hid (leastW_here (hs.trans he))
      go_wp2_with (fail)
      simp only [Exit.jump]
      exact bodyPost_ret (v := optN (some n)) (by simp [optN, results, Tryz.results67, go_sem, *]) rfl ⟨by rw [← hl, hr.out], hX2.below⟩
    · by_cases h2 : s < n
      · have hr := Lib.hid (leastW_none (by rw [hs]; exact he) (.inl (by rw [hs]; exact h2)))
        go_wp2_with (fail)
        simp only [Exit.jump]
        exact bodyPost_ret (v := optN none) (by simp [optN, results, Tryz.results67, go_sem, *]) rfl ⟨by rw [← hl, hr.out], hX2.below⟩
      · by_cases h3 : 1000000 < s
        · have hr := Lib.hid (leastW_none (by rw [hs]; exact he) (.inr (by rw [hs]; exact h3)))
          go_wp2_with (fail)
          simp only [Exit.jump]
          exact bodyPost_ret (v := optN none) (by simp [optN, results, Tryz.results67, go_sem, *]) rfl ⟨by rw [← hl, hr.out], hX2.below⟩
        · have hr := leastW_next (by rw [hs]; exact he) (by rw [hs]; omega)
          rw [hs] at hr
          have hR := Lib.hid hr
          clear hr
          go_wp2_with (fail)
          go_step3
          exact ⟨rfl, ⟨⟨hX2, s, _, _, _, _, _, _, _, _, _, _, _, _, _, _, _, _, _, _, _, _, _, rfl, ⟨by omega, by omega⟩, by rw [← hR.out]; exact hl, hok⟩, by show (1000001 - s).toNat < (1000001 - n).toNat; omega⟩⟩
end Go.Proofs.YtknfdjnbndfboabGreatDoor
