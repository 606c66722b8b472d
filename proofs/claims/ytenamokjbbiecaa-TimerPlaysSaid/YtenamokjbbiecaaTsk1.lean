import Derived.Test.YtenamokjbbiecaaProg
import Derived.Test.YtenamokjbbiecaaBase
import Derived.Test.YtenamokjbbiecaaHeldX
import Derived.Test.YtenamokjbbiecaaExt0
import Derived.BigQuiet
import Derived.Deep.QuietTactic
import Derived.RegionCalls
import Derived.Deep.RegionWith
namespace Go.Proofs.Ytenamokjbbiecaa
open Go.RowKit
set_option linter.unusedSimpArgs false
attribute [local go_sem] setCell_twice ByteArray.toList_eq str_list

/-- a task -/
structure Tsk where
  name : ByteArray
  T : Int
  D : Int
  mode : Int
  q : Int
  theta : Int
  regs : List Int
  ecb : Int
  ucb : Int

def tskV (t : Tsk) (r : Value) : Value := .agg #[.string t.name, .int .i64 t.T, .int .i64 t.D, .int .i64 t.mode, .int .i64 t.q, .int .i64 t.theta, r, .int .u64 t.ecb, .int .u64 t.ucb]
def workL (xs : List Int) : Int := xs.foldl (fun a x => wrap64 (a + x)) 0
theorem work_snoc (xs : List Int) (k : Nat) (h : k < xs.length) : workL (xs.take (k + 1)) = wrap64 (workL (xs.take k) + xs[k]) := by
  unfold workL
  rw [List.take_succ_eq_append_getElem h, List.foldl_append]
  rfl

theorem in_any (n least most : Int) (w : World) :
    Calls Try.prog 31 #[.int .i64 n, .int .i64 least, .int .i64 most] w fun e w' => e = .returned (.bool (decide (n ≥ least) && decide (n ≤ most))) ∧ w = w' := by
  go_enter Try.func31, Try.ntmps31
  by_cases h1 : n ≥ least
  · by_cases h2 : n ≤ most
    · go_wp2_with (fail)
      go_ret
      exact ⟨by simp [h1, h2], rfl⟩
    · go_wp2_with (fail)
      go_ret
      exact ⟨by simp [h1, h2], rfl⟩
  · go_wp2_with (fail)
    go_ret
    exact ⟨by simp; omega, rfl⟩
set_option maxHeartbeats 1600000 in
set_option maxRecDepth 100000 in
theorem workR_any (t : Tsk) (r : Value) (w : World) (hr : Ints w r t.regs) :
    Calls Try.prog 49 #[tskV t r] w fun e w' => e = .returned (.int .i64 (workL t.regs)) ∧ Below w.heap.size w w' := by
  obtain ⟨nm, T, D, mode, q, theta, xs, ecb, ucb⟩ := t
  unfold tskV
  dsimp only at hr ⊢
  obtain ⟨A, c, rfl, h1, h2, h3⟩ := hr
  unfold maxLen at h2
  go_enter Try.func49, Try.ntmps49
  go_wp2_with (fail)
  go_loopw [3, 4] (fun n i wr => ∃ k : Nat, k ≤ xs.length ∧ i = .int .i64 k ∧ n = .int .i64 (workL (xs.take k)) ∧ wr = w.alloc (.cells #[.string nm, .int .i64 T, .int .i64 D, .int .i64 mode, .int .i64 q, .int .i64 theta, .slice A xs.length c, .int .u64 ecb, .int .u64 ucb] 34)) (fun _ i _ => xs.length - (intOf i).toNat)
  case atStart => exact ⟨0, Nat.zero_le _, rfl, rfl, rfl⟩
  case round =>
    obtain ⟨k, hk, rfl, rfl, rfl⟩ := hrel
    by_cases hlt : k < xs.length
    · obtain ⟨b, o, rfl, hx⟩ := h3 (by intro e; rw [e] at hlt; simp at hlt)
      have hc := cell_past (hx k hlt) (.cells #[.string nm, .int .i64 T, .int .i64 D, .int .i64 mode, .int .i64 q, .int .i64 theta, .slice (some ⟨b, o, none⟩) xs.length c, .int .u64 ecb, .int .u64 ucb] 34)
      clear hx
      have hs := work_snoc xs k hlt
      generalize workL (xs.take k) = n at hs ⊢
      generalize xs[k] = x at hc hs
      have HS := Lib.hid hs; clear hs
      go_wp2_with (fail)
      exact ⟨⟨k + 1, hlt, rfl, by rw [HS.out], (by first | trivial | rfl)⟩, by simp [intOf]; omega⟩
    · obtain rfl : k = xs.length := by omega
      go_wp2_with (fail)
      go_ret
      exact ⟨by rw [List.take_length]; rfl, (by repeat (first | exact Below.refl _ _ | assumption | refine Below.drew ?_ | refine Below.alloc ?_ (by first | (simp; done) | (simp; omega) | omega) _ | refine Below.setCell ?_ (by first | (simp; done) | (simp; omega) | omega) _))⟩

/-- a task's region may be -/
def regB (x : Int) : Bool := decide (x ≥ 1) && decide (x ≤ 10000)
def regsB (xs : List Int) : Bool := decide (1 ≤ xs.length) && (decide (xs.length ≤ 8) && xs.all regB)
def modeB (t : Tsk) (p : Int) : Bool :=
  bif t.mode == 0 then (t.q == 0) && (t.theta == 0)
  else bif t.mode == 1 then (decide (t.q ≥ 0) && decide (t.q ≤ 10000)) && (t.theta == 0)
  else bif t.mode == 2 then (t.q == 0) && (decide (t.theta ≥ 0) && decide (t.theta ≤ p))
  else false
end Go.Proofs.Ytenamokjbbiecaa
