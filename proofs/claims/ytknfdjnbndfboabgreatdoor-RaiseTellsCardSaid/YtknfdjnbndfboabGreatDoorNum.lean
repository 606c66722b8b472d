/- num: Is, told, Add, Floor, Ceil. -/
import Derived.Test.YtknfdjnbndfboabGreatDoorProg
import Derived.Test.YtknfdjnbndfboabGreatDoorBase
import Derived.Test.YtknfdjnbndfboabGreatDoorHeldX
import Derived.Test.YtknfdjnbndfboabGreatDoorNumP
import Derived.Deep.Cut
import Derived.Lib.Hide
import Derived.Tactics2
namespace Go.Proofs.YtknfdjnbndfboabGreatDoor
open Go.RowKit
set_option linter.unusedSimpArgs false
set_option maxRecDepth 100000
set_option maxHeartbeats 6400000

theorem numIs_any (n : Int) (w : World) : Calls Tryz.prog 93 #[.int .i64 n] w fun e w' => e = .returned (.bool (isN n)) ∧ w = w' := by
  go_enter Tryz.func93, Tryz.ntmps93
  go_upto_region 1 with (fail)
  refine wp_region_all' (S := (· = w)) rfl (fun K hK => ?_); (repeat (first | (apply hO_and; (· rfl); (· rfl); (· rfl); (· rfl); simp only [Act.put, List.setIfInBounds_toArray, List.set_cons_zero, List.set_cons_succ]) | (apply hO_or; (· rfl); (· rfl); (· rfl); (· rfl); simp only [Act.put, List.setIfInBounds_toArray, List.set_cons_zero, List.set_cons_succ]) | (apply hO_off; (· rfl); (· rfl); simp only [Act.put, List.setIfInBounds_toArray, List.set_cons_zero, List.set_cons_succ]) | (apply hO_val; (· intro w hS; go_simp; with_reducible rfl); (· rfl); simp only [Act.put, List.setIfInBounds_toArray, List.set_cons_zero, List.set_cons_succ]) | (apply hO_call; (· rfl); (· intro w hS; go_simp; exact ⟨rfl, rfl⟩); (· intro w hS; fail); simp only [Act.put, List.setIfInBounds_toArray, List.set_cons_zero, List.set_cons_succ]) | (apply hO_if; (· rfl); (· rfl); (· intro hif w hS; go_simp; with_reducible rfl); simp only [Act.put, List.setIfInBounds_toArray, List.set_cons_zero, List.set_cons_succ]) | (apply hO_ifcall; (· rfl); (· rfl); (· intro hif w hS; go_simp; exact ⟨rfl, rfl⟩); (· intro hif w hS; fail); simp only [Act.put, List.setIfInBounds_toArray, List.set_cons_zero, List.set_cons_succ]))); refine hO_nil ?_; refine hK _ ?_; clear hK K
  rintro _ rfl
  rw [isN_eq]
  go_wp2_with (fail)
  go_ret
  exact ⟨rfl, rfl⟩
theorem numTold_any (n : Int) (ok : Bool) (w : World) : Calls Tryz.prog 95 #[.int .i64 n, .bool ok] w fun e w' => e = .returned (pairN n (ok && isN n)) ∧ w = w' := by
  go_enter Tryz.func95, Tryz.ntmps95
  go_upto_region 1 with (fail)
  refine wp_region_all' (S := (· = w)) rfl (fun K hK => ?_); (repeat (first | (apply hO_and; (· rfl); (· rfl); (· rfl); (· rfl); simp only [Act.put, List.setIfInBounds_toArray, List.set_cons_zero, List.set_cons_succ]) | (apply hO_or; (· rfl); (· rfl); (· rfl); (· rfl); simp only [Act.put, List.setIfInBounds_toArray, List.set_cons_zero, List.set_cons_succ]) | (apply hO_off; (· rfl); (· rfl); simp only [Act.put, List.setIfInBounds_toArray, List.set_cons_zero, List.set_cons_succ]) | (apply hO_val; (· intro w hS; go_simp; with_reducible rfl); (· rfl); simp only [Act.put, List.setIfInBounds_toArray, List.set_cons_zero, List.set_cons_succ]) | (apply hO_call; (· rfl); (· intro w hS; go_simp; exact ⟨rfl, rfl⟩); (· intro w hS; exact callS hS (numIs_any n _)); simp only [Act.put, List.setIfInBounds_toArray, List.set_cons_zero, List.set_cons_succ]) | (apply hO_if; (· rfl); (· rfl); (· intro hif w hS; go_simp; with_reducible rfl); simp only [Act.put, List.setIfInBounds_toArray, List.set_cons_zero, List.set_cons_succ]) | (apply hO_ifcall; (· rfl); (· rfl); (· intro hif w hS; go_simp; exact ⟨rfl, rfl⟩); (· intro hif w hS; exact callS hS (numIs_any n _)); simp only [Act.put, List.setIfInBounds_toArray, List.set_cons_zero, List.set_cons_succ]))); refine hO_nil ?_; refine hK _ ?_; clear hK K
  rintro _ rfl
  cases hb : (!ok || !isN n) with
  | true =>
    have h2 : (ok && isN n) = false := by revert hb; cases ok <;> cases isN n <;> simp
    go_wp2_with (fail)
    exact bodyPost_ret (v := pairN n false) (by simp [pairN, results, Tryz.results95, go_sem, *]) rfl ⟨by rw [h2], rfl⟩
  | false =>
    have h2 : (ok && isN n) = true := by revert hb; cases ok <;> cases isN n <;> simp
    go_wp2_with (fail)
    exact bodyPost_ret (v := pairN n true) (by simp [pairN, results, Tryz.results95, go_sem, *]) rfl ⟨by rw [h2], rfl⟩
theorem numAdd_any (a b : Int) (w : World) : Calls Tryz.prog 81 #[.int .i64 a, .int .i64 b] w fun e w' => e = .returned (pairN (a + b) (isN a && isN b && isN (a + b))) ∧ w = w' := by
  go_enter Tryz.func81, Tryz.ntmps81
  go_upto_region 1 with (fail)
  refine wp_region_all' (S := (· = w)) rfl (fun K hK => ?_); (repeat (first | (apply hO_and; (· rfl); (· rfl); (· rfl); (· rfl); simp only [Act.put, List.setIfInBounds_toArray, List.set_cons_zero, List.set_cons_succ]) | (apply hO_or; (· rfl); (· rfl); (· rfl); (· rfl); simp only [Act.put, List.setIfInBounds_toArray, List.set_cons_zero, List.set_cons_succ]) | (apply hO_off; (· rfl); (· rfl); simp only [Act.put, List.setIfInBounds_toArray, List.set_cons_zero, List.set_cons_succ]) | (apply hO_val; (· intro w hS; go_simp; with_reducible rfl); (· rfl); simp only [Act.put, List.setIfInBounds_toArray, List.set_cons_zero, List.set_cons_succ]) | (apply hO_call; (· rfl); (· intro w hS; go_simp; exact ⟨rfl, rfl⟩); (· intro w hS; exact callS hS (numIs_any _ _)); simp only [Act.put, List.setIfInBounds_toArray, List.set_cons_zero, List.set_cons_succ]) | (apply hO_if; (· rfl); (· rfl); (· intro hif w hS; go_simp; with_reducible rfl); simp only [Act.put, List.setIfInBounds_toArray, List.set_cons_zero, List.set_cons_succ]) | (apply hO_ifcall; (· rfl); (· rfl); (· intro hif w hS; go_simp; exact ⟨rfl, rfl⟩); (· intro hif w hS; exact callS hS (numIs_any _ _)); simp only [Act.put, List.setIfInBounds_toArray, List.set_cons_zero, List.set_cons_succ]))); refine hO_nil ?_; refine hK _ ?_; clear hK K
  rintro _ rfl
  cases hb : (!isN a || !isN b) with
  | true =>
    have h2 : (isN a && isN b && isN (a + b)) = false := by revert hb; cases isN a <;> cases isN b <;> simp
    go_wp2_with (fail)
    exact bodyPost_ret (v := pairN (a + b) false) (by simp [pairN, results, Tryz.results81, go_sem, *]) rfl ⟨by rw [h2], rfl⟩
  | false =>
    have h2 : isN a = true ∧ isN b = true := by revert hb; cases isN a <;> cases isN b <;> simp
    have hd := isN_add h2.1 h2.2
    go_wp2_with (fail)
    refine (numTold_any (a + b) true _).mono ?_
    rintro e w1 ⟨rfl, rfl⟩
    cases hq : isN (a + b) with
    | true =>
      unfold pairN
      dsimp only [cond_true, Bool.and_true]
      go_wp2_with (fail)
      exact bodyPost_ret (v := .tuple #[.int .i64 (a + b), .bool true]) (by simp [results, Tryz.results81, go_sem, *]) rfl ⟨by rw [h2.1, h2.2, hq]; rfl, rfl⟩
    | false =>
      unfold pairN
      dsimp only [cond_false, Bool.and_false]
      go_wp2_with (fail)
      exact bodyPost_ret (v := .tuple #[.int .i64 0, .bool false]) (by simp [results, Tryz.results81, go_sem, *]) rfl ⟨by rw [h2.1, h2.2, hq]; rfl, rfl⟩
theorem numFloor_any (a b : Int) (w : World) : Calls Tryz.prog 101 #[.int .i64 a, .int .i64 b] w fun e w' => e = .returned (pairN (a / b) (isN a && isN b && !(b == 0))) ∧ w = w' := by
  go_enter Tryz.func101, Tryz.ntmps101
  go_upto_region 1 with (fail)
  refine wp_region_all' (S := (· = w)) rfl (fun K hK => ?_); (repeat (first | (apply hO_and; (· rfl); (· rfl); (· rfl); (· rfl); simp only [Act.put, List.setIfInBounds_toArray, List.set_cons_zero, List.set_cons_succ]) | (apply hO_or; (· rfl); (· rfl); (· rfl); (· rfl); simp only [Act.put, List.setIfInBounds_toArray, List.set_cons_zero, List.set_cons_succ]) | (apply hO_off; (· rfl); (· rfl); simp only [Act.put, List.setIfInBounds_toArray, List.set_cons_zero, List.set_cons_succ]) | (apply hO_val; (· intro w hS; go_simp; with_reducible rfl); (· rfl); simp only [Act.put, List.setIfInBounds_toArray, List.set_cons_zero, List.set_cons_succ]) | (apply hO_call; (· rfl); (· intro w hS; go_simp; exact ⟨rfl, rfl⟩); (· intro w hS; exact callS hS (numIs_any _ _)); simp only [Act.put, List.setIfInBounds_toArray, List.set_cons_zero, List.set_cons_succ]) | (apply hO_if; (· rfl); (· rfl); (· intro hif w hS; go_simp; with_reducible rfl); simp only [Act.put, List.setIfInBounds_toArray, List.set_cons_zero, List.set_cons_succ]) | (apply hO_ifcall; (· rfl); (· rfl); (· intro hif w hS; go_simp; exact ⟨rfl, rfl⟩); (· intro hif w hS; exact callS hS (numIs_any _ _)); simp only [Act.put, List.setIfInBounds_toArray, List.set_cons_zero, List.set_cons_succ]))); refine hO_nil ?_; refine hK _ ?_; clear hK K
  rintro _ rfl
  cases hb : (!isN a || !isN b || b == 0) with
  | true =>
    have h2 : (isN a && isN b && !(b == 0)) = false := by revert hb; cases isN a <;> cases isN b <;> cases b == 0 <;> simp
    go_wp2_with (fail)
    exact bodyPost_ret (v := pairN (a / b) false) (by simp [pairN, results, Tryz.results101, go_sem, *]) rfl ⟨by rw [h2], rfl⟩
  | false =>
    have h2 : (isN a && isN b && !(b == 0)) = true := by revert hb; cases isN a <;> cases isN b <;> cases b == 0 <;> simp
    obtain ⟨⟨h3, h4⟩, h5⟩ : (isN a = true ∧ isN b = true) ∧ b ≠ 0 := by simpa using h2
    have hd := isN_div h3 h4 h5
    rw [isN_iff] at h3 h4
    have h6 : a.tdiv b = a / b := Int.tdiv_eq_ediv_of_nonneg h3.1
    go_wp2_with (fail)
    exact bodyPost_ret (v := pairN (a / b) true) (by simp [pairN, results, Tryz.results101, go_sem, *]) rfl ⟨by rw [h2], rfl⟩
theorem numCeil_any (a b : Int) (w : World) : Calls Tryz.prog 92 #[.int .i64 a, .int .i64 b] w fun e w' => e = .returned (pairN (ceilF a b) (isN a && isN b && !(b == 0))) ∧ w = w' := by
  go_enter Tryz.func92, Tryz.ntmps92
  go_wp2_with (fail)
  refine (numFloor_any a b _).mono ?_
  rintro e w1 ⟨rfl, rfl⟩
  cases hb : (isN a && isN b && !(b == 0)) with
  | true =>
    obtain ⟨⟨h3, h4⟩, h5⟩ : (isN a = true ∧ isN b = true) ∧ b ≠ 0 := by simpa using hb
    have hd := isN_div h3 h4 h5
    have hd1 := Lib.hid hd
    rw [isN_iff] at h3 h4
    unfold pairN
    dsimp only [cond_true]
    generalize hq : a / b = q at hd
    generalize hm : q * b = m at hd
    cases hc : decide (m < a) with
    | true =>
      go_wp2_with (fail)
      exact bodyPost_ret (v := .tuple #[.int .i64 (q + 1), .bool true]) (by simp [results, Tryz.results92, go_sem, *]) rfl ⟨by rw [hb]; unfold ceilF; rw [hq, hm, hc]; rfl, rfl⟩
    | false =>
      go_wp2_with (fail)
      exact bodyPost_ret (v := .tuple #[.int .i64 q, .bool true]) (by simp [results, Tryz.results92, go_sem, *]) rfl ⟨by rw [hb]; unfold ceilF; rw [hq, hm, hc]; rfl, rfl⟩
  | false =>
    unfold pairN
    dsimp only [cond_false]
    go_wp2_with (fail)
    exact bodyPost_ret (v := .tuple #[.int .i64 0, .bool false]) (by simp [results, Tryz.results92, go_sem, *]) rfl ⟨by rw [hb]; rfl, rfl⟩
end Go.Proofs.YtknfdjnbndfboabGreatDoor
