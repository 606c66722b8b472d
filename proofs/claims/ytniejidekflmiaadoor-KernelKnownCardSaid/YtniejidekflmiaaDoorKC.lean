/- Plain: two tasks, by hand; who is refused. -/
import Derived.Test.YtniejidekflmiaaDoorProg
import Derived.Test.YtniejidekflmiaaDoorKM
import Init
namespace Go.Proofs.YtniejidekflmiaaDoor
def bA : ByteArray := ⟨#[97]⟩
def bB : ByteArray := ⟨#[98]⟩
def kTa : Tsk := ⟨bA, 9, 9, 0, 0, 0, [1], 6, 0⟩
def kTb (mode q theta : Int) : Tsk := ⟨bB, 20, 20, mode, q, theta, [3, 2], 7, 3⟩
def kSw (mode q theta : Int) : TSet := ⟨1, [kTa, kTb mode q theta]⟩
def kIw : List Inp := [⟨2, [[], [3, 2]], 7⟩, ⟨1, [], 7⟩, ⟨0, [], 7⟩, ⟨0, [], 7⟩, ⟨0, [], 7⟩, ⟨0, [], 7⟩, ⟨0, [], 7⟩, ⟨0, [], 7⟩]
def kE0 : List Ev := [⟨0, 1, 1, 0⟩, ⟨0, 4, 1, 0⟩, ⟨1, 1, 0, 0⟩, ⟨2, 7, 1, 0⟩, ⟨3, 5, 1, 0⟩, ⟨3, 4, 0, 0⟩, ⟨3, 7, 0, 0⟩, ⟨3, 8, 0, 3⟩, ⟨4, 6, 1, 1⟩, ⟨6, 7, 1, 1⟩, ⟨6, 8, 1, 7⟩, ⟨7, 10, -1, 0⟩]
def kE1 : List Ev := [⟨0, 1, 1, 0⟩, ⟨0, 4, 1, 0⟩, ⟨1, 1, 0, 0⟩, ⟨2, 5, 1, 0⟩, ⟨2, 4, 0, 0⟩, ⟨2, 7, 0, 0⟩, ⟨2, 8, 0, 2⟩, ⟨3, 6, 1, 1⟩, ⟨4, 7, 1, 0⟩, ⟨6, 7, 1, 1⟩, ⟨6, 8, 1, 7⟩, ⟨7, 10, -1, 0⟩]
def kE2 : List Ev := [⟨0, 1, 1, 0⟩, ⟨0, 4, 1, 0⟩, ⟨1, 1, 0, 0⟩, ⟨1, 5, 1, 0⟩, ⟨1, 4, 0, 0⟩, ⟨1, 7, 0, 0⟩, ⟨1, 8, 0, 1⟩, ⟨2, 6, 1, 1⟩, ⟨4, 7, 1, 0⟩, ⟨6, 7, 1, 1⟩, ⟨6, 8, 1, 7⟩, ⟨7, 10, -1, 0⟩]
def kE3 : List Ev := [⟨0, 1, 1, 0⟩, ⟨0, 4, 1, 0⟩, ⟨1, 1, 0, 0⟩, ⟨2, 7, 1, 0⟩, ⟨4, 7, 1, 1⟩, ⟨4, 8, 1, 5⟩, ⟨5, 4, 0, 0⟩, ⟨5, 7, 0, 0⟩, ⟨5, 8, 0, 5⟩, ⟨6, 10, -1, 0⟩, ⟨7, 10, -1, 0⟩]
theorem kE0_eq : eventsK (kSw 0 0 0) kIw = kE0 := by decide +kernel
theorem kE1_eq : eventsK (kSw 1 1 0) kIw = kE1 := by decide +kernel
theorem kE2_eq : eventsK (kSw 2 0 1) kIw = kE2 := by decide +kernel
theorem kE3_eq : eventsK (kSw 2 0 0) kIw = kE3 := by decide +kernel
def rSw : TSet := ⟨0, [⟨bA, 3, 3, 0, 0, 0, [2], 0, 0⟩, ⟨bB, 4, 1, 0, 0, 0, [1], 0, 0⟩]⟩
def rIw (n : Int) : List Inp := [⟨7, [[n], [n]], 0⟩, ⟨3, [], 0⟩, ⟨2, [], 0⟩]
def rE1 : List Ev := [⟨0, 1, 0, 0⟩, ⟨0, 1, 1, 0⟩, ⟨0, 4, 0, 0⟩, ⟨0, 7, 0, 0⟩, ⟨0, 8, 0, 1⟩, ⟨1, 3, 1, 0⟩, ⟨1, 2, 0, 1⟩, ⟨1, 2, 1, 1⟩, ⟨1, 4, 1, 0⟩, ⟨1, 7, 1, 0⟩, ⟨1, 8, 1, 2⟩, ⟨2, 2, 1, 1⟩, ⟨2, 10, -1, 0⟩]
def rE2 : List Ev := [⟨0, 1, 0, 0⟩, ⟨0, 1, 1, 0⟩, ⟨0, 4, 0, 0⟩, ⟨1, 3, 1, 0⟩, ⟨1, 2, 0, 1⟩, ⟨1, 2, 1, 1⟩, ⟨1, 7, 0, 0⟩, ⟨1, 8, 0, 2⟩, ⟨2, 2, 1, 1⟩, ⟨2, 4, 1, 0⟩, ⟨2, 9, 1, 3⟩]
def rE3 : List Ev := [⟨0, 1, 0, 0⟩, ⟨0, 1, 1, 0⟩, ⟨0, 4, 0, 0⟩, ⟨1, 3, 1, 0⟩, ⟨1, 2, 0, 1⟩, ⟨1, 2, 1, 1⟩, ⟨1, 9, 0, 2⟩, ⟨2, 2, 1, 1⟩, ⟨2, 4, 1, 0⟩, ⟨2, 9, 1, 3⟩]
theorem rE_all : ((List.range 31).all fun n => n == 0 || decide (eventsK rSw (rIw n) = if n = 1 then rE1 else if n = 2 then rE2 else rE3)) = true := by decide +kernel
theorem rE_eq {n : Int} (h : 1 ≤ n ∧ n ≤ 30) : eventsK rSw (rIw n) = if n = 1 then rE1 else if n = 2 then rE2 else rE3 := by
  obtain ⟨m, rfl⟩ := Int.eq_ofNat_of_zero_le (show 0 ≤ n by omega)
  have h1 := List.all_eq_true.1 rE_all m (List.mem_range.2 (by omega))
  rw [Bool.or_eq_true, beq_iff_eq, decide_eq_true_eq] at h1
  rcases h1 with h1 | h1
  · omega
  · rw [h1]
    by_cases e1 : m = 1
    · rw [if_pos e1, if_pos (show (m : Int) = 1 by omega)]
    · rw [if_neg e1, if_neg (show ¬ (m : Int) = 1 by omega)]
      by_cases e2 : m = 2
      · rw [if_pos e2, if_pos (show (m : Int) = 2 by omega)]
      · rw [if_neg e2, if_neg (show ¬ (m : Int) = 2 by omega)]
end Go.Proofs.YtniejidekflmiaaDoor
