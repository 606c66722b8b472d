import Derived.Test.YtniejidekflmiaaGreatDoorProg
import Derived.Test.YtniejidekflmiaaGreatDoorBase
import Derived.Test.YtniejidekflmiaaGreatDoorHeldX
import Derived.Test.YtniejidekflmiaaGreatDoorExt0
import Derived.BigQuiet
import Derived.Deep.QuietTactic
import Derived.RegionCalls
import Derived.Deep.RegionWith
namespace Go.Proofs.YtniejidekflmiaaGreatDoor
open Go.RowKit
set_option linter.unusedSimpArgs false
attribute [local go_sem] setCell_twice ByteArray.toList_eq str_list

/-- a task -/
structure Tsk where
  name : ByteArray
  T : Int
  D : Int
  mode : Int
  q : Int
  theta : Int
  regs : List Int
  ecb : Int
  ucb : Int

def tskV (t : Tsk) (r : Value) : Value := .agg #[.string t.name, .int .i64 t.T, .int .i64 t.D, .int .i64 t.mode, .int .i64 t.q, .int .i64 t.theta, r, .int .u64 t.ecb, .int .u64 t.ucb]
def workL (xs : List Int) : Int := xs.foldl (fun a x => wrap64 (a + x)) 0
theorem work_snoc (xs : List Int) (k : Nat) (h : k < xs.length) : workL (xs.take (k + 1)) = wrap64 (workL (xs.take k) + xs[k]) := by
  unfold workL
  rw [List.take_succ_eq_append_getElem h, List.foldl_append]
  rfl

theorem isTime_any (n least : Int) (w : World) :
    Calls Tryz.prog 56 #[.int .i64 n, .int .i64 least] w fun e w' => e = .returned (.bool (decide (n ≥ least) && decide (n ≤ 10000))) ∧ w = w' := by
  go_enter Tryz.func56, Tryz.ntmps56
  by_cases h1 : n ≥ least
  · by_cases h2 : n ≤ 10000
    · go_wp2_with (fail)
      go_ret
      exact ⟨by simp [h1, h2], rfl⟩
    · go_wp2_with (fail)
      go_ret
      exact ⟨by simp [h1, h2], rfl⟩
  · go_wp2_with (fail)
    go_ret
    exact ⟨by simp; omega, rfl⟩
theorem in_any (n least most : Int) (w : World) :
    Calls Tryz.prog 23 #[.int .i64 n, .int .i64 least, .int .i64 most] w fun e w' => e = .returned (.bool (decide (n ≥ least) && decide (n ≤ most))) ∧ w = w' := by
  go_enter Tryz.func23, Tryz.ntmps23
  by_cases h1 : n ≥ least
  · by_cases h2 : n ≤ most
    · go_wp2_with (fail)
      go_ret
      exact ⟨by simp [h1, h2], rfl⟩
    · go_wp2_with (fail)
      go_ret
      exact ⟨by simp [h1, h2], rfl⟩
  · go_wp2_with (fail)
    go_ret
    exact ⟨by simp; omega, rfl⟩
set_option maxHeartbeats 1600000 in
set_option maxRecDepth 100000 in
theorem work_any (t : Tsk) (r : Value) (w : World) (hr : Ints w r t.regs) :
    Calls Tryz.prog 104 #[tskV t r] w fun e w' => e = .returned (.int .i64 (workL t.regs)) ∧ Below w.heap.size w w' := by
  obtain ⟨nm, T, D, mode, q, theta, xs, ecb, ucb⟩ := t
  unfold tskV
  dsimp only at hr ⊢
  obtain ⟨A, c, rfl, h1, h2, h3⟩ := hr
  unfold maxLen at h2
  go_enter Tryz.func104, Tryz.ntmps104
  go_wp2_with (fail)
  go_loopw [3, 5, 9] (fun n _ i wr => ∃ k : Nat, k ≤ xs.length ∧ i = .int .i64 k ∧ n = .int .i64 (workL (xs.take k)) ∧ wr = w.alloc (.cells #[.string nm, .int .i64 T, .int .i64 D, .int .i64 mode, .int .i64 q, .int .i64 theta, .slice A xs.length c, .int .u64 ecb, .int .u64 ucb] 38)) (fun _ _ i _ => xs.length - (intOf i).toNat)
  case atStart => exact ⟨0, Nat.zero_le _, rfl, rfl, rfl⟩
  case round =>
    obtain ⟨k, hk, rfl, rfl, rfl⟩ := hrel
    by_cases hlt : k < xs.length
    · obtain ⟨b, o, rfl, hx⟩ := h3 (by intro e; rw [e] at hlt; simp at hlt)
      have hc := cell_past (hx k hlt) (.cells #[.string nm, .int .i64 T, .int .i64 D, .int .i64 mode, .int .i64 q, .int .i64 theta, .slice (some ⟨b, o, none⟩) xs.length c, .int .u64 ecb, .int .u64 ucb] 38)
      clear hx
      have hs := work_snoc xs k hlt
      generalize workL (xs.take k) = n at hs ⊢
      generalize xs[k] = x at hc hs
      have HS := Lib.hid hs; clear hs
      go_wp2_with (fail)
      exact ⟨⟨k + 1, hlt, rfl, by rw [HS.out], (by first | trivial | rfl)⟩, by simp [intOf]; omega⟩
    · obtain rfl : k = xs.length := by omega
      go_wp2_with (fail)
      go_ret
      exact ⟨by rw [List.take_length]; rfl, (by repeat (first | exact Below.refl _ _ | assumption | refine Below.drew ?_ | refine Below.alloc ?_ (by first | (simp; done) | (simp; omega) | omega) _ | refine Below.setCell ?_ (by first | (simp; done) | (simp; omega) | omega) _))⟩
set_option maxHeartbeats 1600000 in
set_option maxRecDepth 100000 in
theorem workR_any (t : Tsk) (r : Value) (w : World) (hr : Ints w r t.regs) :
    Calls Tryz.prog 50 #[tskV t r] w fun e w' => e = .returned (.int .i64 (workL t.regs)) ∧ Below w.heap.size w w' := by
  obtain ⟨nm, T, D, mode, q, theta, xs, ecb, ucb⟩ := t
  unfold tskV
  dsimp only at hr ⊢
  obtain ⟨A, c, rfl, h1, h2, h3⟩ := hr
  unfold maxLen at h2
  go_enter Tryz.func50, Tryz.ntmps50
  go_wp2_with (fail)
  go_loopw [3, 4] (fun n i wr => ∃ k : Nat, k ≤ xs.length ∧ i = .int .i64 k ∧ n = .int .i64 (workL (xs.take k)) ∧ wr = w.alloc (.cells #[.string nm, .int .i64 T, .int .i64 D, .int .i64 mode, .int .i64 q, .int .i64 theta, .slice A xs.length c, .int .u64 ecb, .int .u64 ucb] 38)) (fun _ i _ => xs.length - (intOf i).toNat)
  case atStart => exact ⟨0, Nat.zero_le _, rfl, rfl, rfl⟩
  case round =>
    obtain ⟨k, hk, rfl, rfl, rfl⟩ := hrel
    by_cases hlt : k < xs.length
    · obtain ⟨b, o, rfl, hx⟩ := h3 (by intro e; rw [e] at hlt; simp at hlt)
      have hc := cell_past (hx k hlt) (.cells #[.string nm, .int .i64 T, .int .i64 D, .int .i64 mode, .int .i64 q, .int .i64 theta, .slice (some ⟨b, o, none⟩) xs.length c, .int .u64 ecb, .int .u64 ucb] 38)
      clear hx
      have hs := work_snoc xs k hlt
      generalize workL (xs.take k) = n at hs ⊢
      generalize xs[k] = x at hc hs
      have HS := Lib.hid hs; clear hs
      go_wp2_with (fail)
      exact ⟨⟨k + 1, hlt, rfl, by rw [HS.out], (by first | trivial | rfl)⟩, by simp [intOf]; omega⟩
    · obtain rfl : k = xs.length := by omega
      go_wp2_with (fail)
      go_ret
      exact ⟨by rw [List.take_length]; rfl, (by repeat (first | exact Below.refl _ _ | assumption | refine Below.drew ?_ | refine Below.alloc ?_ (by first | (simp; done) | (simp; omega) | omega) _ | refine Below.setCell ?_ (by first | (simp; done) | (simp; omega) | omega) _))⟩

/-- a task's region may be -/
def regB (x : Int) : Bool := decide (x ≥ 1) && decide (x ≤ 10000)
theorem isReg_any (n : Int) (w : World) :
    Calls Tryz.prog 126 #[.int .i64 n] w fun e w' => e = .returned (.bool (!regB n)) ∧ w = w' := by
  go_enter Tryz.func126, Tryz.ntmps126
  go_wp2_with (go_at_call 56; refine (isTime_any _ _ _).mono ?_; rintro e w' ⟨rfl, rfl⟩)
  go_ret
  refine ⟨?_, rfl⟩
  unfold regB
  simp [Bool.not_and]
set_option maxHeartbeats 1600000 in
set_option maxRecDepth 100000 in
theorem index_any (v : Value) (xs : List Int) (w : World) (hv : Ints w v xs) :
    Calls Tryz.prog 106 #[v, .func (.func 126) #[] #[]] w fun e w' => (∃ i : Int, e = .returned (.int .i64 i) ∧ (xs.all regB = true → i = -1) ∧ (xs.all regB = false → 0 ≤ i)) ∧ w = w' := by
  obtain ⟨A, c, rfl, h1, h2, h3⟩ := hv
  unfold maxLen at h2
  go_enter Tryz.func106, Tryz.ntmps106
  go_wp2_with (fail)
  go_loopw [5, 8] (fun _ i wr => ∃ k : Nat, k ≤ xs.length ∧ i = .int .i64 k ∧ (xs.take k).all regB = true ∧ wr = w) (fun _ i _ => xs.length - (intOf i).toNat)
  case atStart => exact ⟨0, Nat.zero_le _, rfl, rfl, rfl⟩
  case round =>
    obtain ⟨k, hk, rfl, hall, rfl⟩ := hrel
    have HA := Lib.hid hall; clear hall
    by_cases hlt : k < xs.length
    · obtain ⟨b, o, rfl, hx⟩ := h3 (by intro e; rw [e] at hlt; simp at hlt)
      have hc := hx k hlt
      clear hx h3
      have hs : xs.take (k + 1) = xs.take k ++ [xs[k]] := List.take_succ_eq_append_getElem hlt
      have hm : xs[k] ∈ xs := List.getElem_mem hlt
      generalize xs[k] = x at hc hs hm
      have HS := Lib.hid hs; clear hs
      have HM := Lib.hid hm; clear hm
      cases hR : regB x with
      | true =>
        go_wp2_with (go_at_call 126; refine (isReg_any _ _).mono ?_; rintro e w' ⟨rfl, rfl⟩)
        exact ⟨⟨k + 1, hlt, rfl, by rw [HS.out, List.all_append, HA.out]; simp [hR], (by first | trivial | rfl)⟩, by simp [intOf]; omega⟩
      | false =>
        go_wp2_with (go_at_call 126; refine (isReg_any _ _).mono ?_; rintro e w' ⟨rfl, rfl⟩)
        go_ret
        refine ⟨⟨k, rfl, fun h => ?_, fun _ => by omega⟩, rfl⟩
        rw [List.all_eq_true] at h
        rw [h x HM.out] at hR
        cases hR
    · obtain rfl : k = xs.length := by omega
      go_wp2_with (fail)
      go_ret
      have hall := HA.out
      rw [List.take_length] at hall
      exact ⟨⟨-1, rfl, fun _ => rfl, fun h => by rw [hall] at h; cases h⟩, rfl⟩
theorem containsF_any (v : Value) (xs : List Int) (w : World) (hv : Ints w v xs) :
    Calls Tryz.prog 58 #[v, .func (.func 126) #[] #[]] w fun e w' => e = .returned (.bool (!xs.all regB)) ∧ w = w' := by
  go_enter Tryz.func58, Tryz.ntmps58
  cases hA : xs.all regB with
  | true =>
    go_wp2_with (go_at_call 106; refine (index_any _ _ _ hv).mono ?_; rintro e w' ⟨⟨i, rfl, hi, _⟩, rfl⟩; have hi2 := hi hA)
    go_ret
    exact ⟨rfl, rfl⟩
  | false =>
    go_wp2_with (go_at_call 106; refine (index_any _ _ _ hv).mono ?_; rintro e w' ⟨⟨i, rfl, _, hi⟩, rfl⟩; have hi2 := hi hA)
    go_ret
    exact ⟨by first | (simp; done) | (simp; omega), rfl⟩
def regsB (xs : List Int) : Bool := decide (1 ≤ xs.length) && (decide (xs.length ≤ 8) && xs.all regB)
theorem isRegions_any (v : Value) (xs : List Int) (w : World) (hv : Ints w v xs) :
    Calls Tryz.prog 103 #[v] w fun e w' => e = .returned (.bool (regsB xs)) ∧ w = w' := by
  have hv0 := hv
  obtain ⟨A, c, rfl, h1, h2, h3⟩ := hv
  clear h3
  unfold maxLen at h2
  go_enter Tryz.func103, Tryz.ntmps103
  unfold regsB
  by_cases k1 : 1 ≤ xs.length
  · by_cases k2 : xs.length ≤ 8
    · go_wp2_with (go_at_call 58; refine (containsF_any _ _ _ hv0).mono ?_; rintro e w' ⟨rfl, rfl⟩)
      go_ret
      exact ⟨by simp [k1, k2], rfl⟩
    · go_wp2_with (fail)
      go_ret
      exact ⟨by simp [k1, k2], rfl⟩
  · go_wp2_with (fail)
    go_ret
    exact ⟨by simp [k1], rfl⟩
def modeB (t : Tsk) (p : Int) : Bool :=
  bif t.mode == 0 then (t.q == 0) && (t.theta == 0)
  else bif t.mode == 1 then (decide (t.q ≥ 0) && decide (t.q ≤ 10000)) && (t.theta == 0)
  else bif t.mode == 2 then (t.q == 0) && (decide (t.theta ≥ 0) && decide (t.theta ≤ p))
  else false
set_option maxHeartbeats 3200000 in
set_option maxRecDepth 100000 in
theorem isMode_any (t : Tsk) (r : Value) (p : Int) (w : World) :
    Calls Tryz.prog 105 #[tskV t r, .int .i64 p] w fun e w' => e = .returned (.bool (modeB t p)) ∧ Below w.heap.size w w' := by
  obtain ⟨nm, T, D, mode, q, theta, xs, ecb, ucb⟩ := t
  unfold tskV
  dsimp only
  generalize hm : modeB _ p = m
  unfold modeB at hm
  dsimp only at hm
  have HM := Lib.hid hm; clear hm
  go_enter Tryz.func105, Tryz.ntmps105
  cases h0 : mode == 0 with
  | true =>
    obtain rfl : mode = 0 := by simpa using h0
    have E : (q == 0 && theta == 0) = m := by rw [← HM.out]; rfl
    clear HM
    cases hq : q == 0 with
    | true =>
      go_wp2_with (fail)
      rw [hq] at E
      subst E
      go_ret
      exact ⟨rfl, (by repeat (first | exact Below.refl _ _ | assumption | refine Below.drew ?_ | refine Below.alloc ?_ (by first | (simp; done) | (simp; omega) | omega) _ | refine Below.setCell ?_ (by first | (simp; done) | (simp; omega) | omega) _))⟩
    | false =>
      go_wp2_with (fail)
      rw [hq] at E
      subst E
      go_ret
      exact ⟨rfl, (by repeat (first | exact Below.refl _ _ | assumption | refine Below.drew ?_ | refine Below.alloc ?_ (by first | (simp; done) | (simp; omega) | omega) _ | refine Below.setCell ?_ (by first | (simp; done) | (simp; omega) | omega) _))⟩
  | false =>
    cases h1 : mode == 1 with
    | true =>
      obtain rfl : mode = 1 := by simpa using h1
      have E : ((decide (q ≥ 0) && decide (q ≤ 10000)) && theta == 0) = m := by rw [← HM.out]; rfl
      clear HM
      cases hq : (decide (q ≥ 0) && decide (q ≤ 10000)) with
      | true =>
        go_wp2_with (go_at_call 56; refine (isTime_any _ _ _).mono ?_; rintro e w' ⟨rfl, rfl⟩; rw [hq])
        rw [hq] at E
        subst E
        go_ret
        exact ⟨rfl, (by repeat (first | exact Below.refl _ _ | assumption | refine Below.drew ?_ | refine Below.alloc ?_ (by first | (simp; done) | (simp; omega) | omega) _ | refine Below.setCell ?_ (by first | (simp; done) | (simp; omega) | omega) _))⟩
      | false =>
        go_wp2_with (go_at_call 56; refine (isTime_any _ _ _).mono ?_; rintro e w' ⟨rfl, rfl⟩; rw [hq])
        rw [hq] at E
        subst E
        go_ret
        exact ⟨rfl, (by repeat (first | exact Below.refl _ _ | assumption | refine Below.drew ?_ | refine Below.alloc ?_ (by first | (simp; done) | (simp; omega) | omega) _ | refine Below.setCell ?_ (by first | (simp; done) | (simp; omega) | omega) _))⟩
    | false =>
      cases h2 : mode == 2 with
      | true =>
        obtain rfl : mode = 2 := by simpa using h2
        have E : (q == 0 && (decide (theta ≥ 0) && decide (theta ≤ p))) = m := by rw [← HM.out]; rfl
        clear HM
        cases hq : q == 0 with
        | true =>
          by_cases hc : theta ≥ 0
          · go_wp2_with (fail)
            rw [hq, decide_eq_true hc] at E
            subst E
            go_ret
            exact ⟨rfl, (by repeat (first | exact Below.refl _ _ | assumption | refine Below.drew ?_ | refine Below.alloc ?_ (by first | (simp; done) | (simp; omega) | omega) _ | refine Below.setCell ?_ (by first | (simp; done) | (simp; omega) | omega) _))⟩
          · go_wp2_with (fail)
            rw [hq, show decide (theta ≥ 0) = false by simp; omega] at E
            subst E
            go_ret
            exact ⟨rfl, (by repeat (first | exact Below.refl _ _ | assumption | refine Below.drew ?_ | refine Below.alloc ?_ (by first | (simp; done) | (simp; omega) | omega) _ | refine Below.setCell ?_ (by first | (simp; done) | (simp; omega) | omega) _))⟩
        | false =>
          go_wp2_with (fail)
          rw [hq] at E
          subst E
          go_ret
          exact ⟨rfl, (by repeat (first | exact Below.refl _ _ | assumption | refine Below.drew ?_ | refine Below.alloc ?_ (by first | (simp; done) | (simp; omega) | omega) _ | refine Below.setCell ?_ (by first | (simp; done) | (simp; omega) | omega) _))⟩
      | false =>
        have E : false = m := by rw [← HM.out, h0, h1, h2]; rfl
        clear HM
        subst E
        go_wp2_with (fail)
        go_ret
        exact ⟨rfl, (by repeat (first | exact Below.refl _ _ | assumption | refine Below.drew ?_ | refine Below.alloc ?_ (by first | (simp; done) | (simp; omega) | omega) _ | refine Below.setCell ?_ (by first | (simp; done) | (simp; omega) | omega) _))⟩
end Go.Proofs.YtniejidekflmiaaGreatDoor
