/- Bits: the rising list, what has one bit. -/
import Derived.Test.YtniejidekflmiaaDoorProg
import Derived.Test.YtniejidekflmiaaDoorBase
import Derived.Test.YtniejidekflmiaaDoorHeldX
import Derived.Test.YtniejidekflmiaaDoorApp
import Derived.Test.YtniejidekflmiaaDoorExt0
import Derived.Test.YtniejidekflmiaaDoorChg
import Derived.Test.YtniejidekflmiaaDoorTsk1
import Derived.Test.YtniejidekflmiaaDoorTsk3
import Derived.Test.YtniejidekflmiaaDoorNumP
import Derived.Test.YtniejidekflmiaaDoorBit
import Derived.Deep.Cut
import Derived.Lib.Hide
import Derived.Laws.Bits64b
import Derived.Laws.Bits128
import Derived.Lib.TrailingZeros
import Derived.Shelf.Spec.TrailingZeros
namespace Go.Proofs.YtniejidekflmiaaDoor
open Go.RowKit
set_option linter.unusedSimpArgs false
set_option maxRecDepth 100000
set_option maxHeartbeats 6400000

/-- x's bits from p on -/
def fromB (x p : Nat) : Nat := x / 2 ^ p * 2 ^ p
theorem fromB_zero (x : Nat) : fromB x 0 = x := by simp [fromB]
theorem fromB_test (x p i : Nat) : (fromB x p).testBit i = (decide (p ≤ i) && x.testBit i) := by
  unfold fromB
  rw [Nat.testBit_mul_two_pow]
  by_cases h : p ≤ i
  · rw [decide_eq_true h, Bool.true_and, Bool.true_and, Nat.testBit_div_two_pow, show i - p + p = i by omega]
  · rw [decide_eq_false h, Bool.false_and, Bool.false_and]
theorem fromB_le (x p : Nat) : fromB x p ≤ x := Nat.div_mul_le_self _ _
theorem low_test (m j i : Nat) : (2 ^ m * (2 * j + 1)).testBit i = (decide (m ≤ i) && (2 * j + 1).testBit (i - m)) := by
  rw [Nat.mul_comm, Nat.testBit_mul_two_pow]
theorem low_pred (m j i : Nat) : (2 ^ m * (2 * j + 1) - 1).testBit i = if i < m then true else (2 * j).testBit (i - m) := by
  have h1 : 0 < 2 ^ m := Nat.two_pow_pos m
  have e : 2 ^ m * (2 * j + 1) - 1 = 2 ^ m * (2 * j) + (2 ^ m - 1) := by rw [Nat.mul_add]; omega
  rw [e, Nat.testBit_two_pow_mul_add _ (by omega)]
  split
  · rename_i h
    rw [Nat.testBit_two_pow_sub_one]
    simp [h]
  · rfl
theorem low_next (m j i : Nat) : (2 ^ m * (2 * j + 1) &&& (2 ^ m * (2 * j + 1) - 1)).testBit i = (decide (m + 1 ≤ i) && (2 ^ m * (2 * j + 1)).testBit i) := by
  rw [Nat.testBit_and, low_pred, low_test]
  rcases Nat.lt_trichotomy i m with h | h | h
  · rw [decide_eq_false (show ¬ m ≤ i by omega)]; simp
  · subst h
    rw [if_neg (by omega), Nat.sub_self, decide_eq_false (show ¬ i + 1 ≤ i by omega)]
    simp
  · obtain ⟨n, rfl⟩ : ∃ n, i = m + (n + 1) := ⟨i - m - 1, by omega⟩
    rw [if_neg (by omega), decide_eq_true (show m ≤ m + (n + 1) by omega), decide_eq_true (show m + 1 ≤ m + (n + 1) by omega), show m + (n + 1) - m = n + 1 by omega, Nat.testBit_succ, Nat.testBit_succ, show (2 * j + 1) / 2 = j by omega, show 2 * j / 2 = j by omega]
    simp
theorem bitsL_gap (x p m : Nat) (hpm : p ≤ m) (h : ∀ c, p ≤ c → c < m → x.testBit c = false) : bitsL x m = bitsL x p := by
  induction m with
  | zero =>
    have : p = 0 := by omega
    rw [this]
  | succ k ih =>
    by_cases hk : p = k + 1
    · rw [hk]
    · rw [bitsL_step, h k (by omega) (by omega), cond_false]
      exact ih (by omega) (fun c h1 h2 => h c h1 (by omega))
/-- the round: the lowest bit of those from p on, and those behind it -/
theorem bits_round (x p : Nat) (hx : x < 18446744073709551616) (h0 : fromB x p ≠ 0) :
    Lib.ctz 64 (fromB x p) < 64 ∧ p ≤ Lib.ctz 64 (fromB x p) ∧ x.testBit (Lib.ctz 64 (fromB x p)) = true ∧ bitsL x (Lib.ctz 64 (fromB x p) + 1) = bitsL x p ++ [(Lib.ctz 64 (fromB x p) : Int)] ∧
    fromB x p &&& (fromB x p - 1) = fromB x (Lib.ctz 64 (fromB x p) + 1) := by
  have hlt : fromB x p < 2 ^ 64 := Nat.lt_of_le_of_lt (fromB_le x p) hx
  obtain ⟨j, hj, hm⟩ := Lib.ctzFrom_spec 64 (fromB x p) (by omega) hlt
  have e : Lib.ctz 64 (fromB x p) = Lib.ctzFrom 64 (fromB x p) := by unfold Lib.ctz; rw [if_neg h0]
  rw [e]
  generalize Lib.ctzFrom 64 (fromB x p) = m at *
  have ht : ∀ i, (decide (p ≤ i) && x.testBit i) = (decide (m ≤ i) && (2 * j + 1).testBit (i - m)) := fun i => by rw [← fromB_test, hj, low_test]
  have hpm : p ≤ m := by
    have := ht m
    rw [decide_eq_true (Nat.le_refl m), Nat.sub_self] at this
    simp at this
    exact this.1
  have hb : x.testBit m = true := by
    have := ht m
    rw [decide_eq_true (Nat.le_refl m), Nat.sub_self] at this
    simp at this
    exact this.2
  refine ⟨hm, hpm, hb, ?_, ?_⟩
  · rw [bitsL_step, hb, cond_true, bitsL_gap x p m hpm]
    intro c h1 h2
    have := ht c
    rw [decide_eq_true h1, decide_eq_false (by omega)] at this
    simpa using this
  · apply Nat.eq_of_testBit_eq
    intro i
    rw [fromB_test]
    have hn := low_next m j i
    rw [← hj] at hn
    rw [hn, fromB_test]
    by_cases h : m + 1 ≤ i
    · rw [decide_eq_true h, decide_eq_true (show p ≤ i by omega)]; simp
    · rw [decide_eq_false h]; simp
theorem bits_over (x p : Nat) (hp : p ≤ 64) (h0 : fromB x p = 0) : bitsL x p = bitsL x 64 := by
  refine (bitsL_gap x p 64 hp ?_).symm
  intro c h1 h2
  have := fromB_test x p c
  rw [h0, decide_eq_true h1] at this
  simpa using this.symm
/-- the table that the library reads -/
def DB (w : World) : Prop := ∀ k, k < 64 → w.cell? ⟨0, k, none⟩ = some (.int .u8 ((Lib.deBruijn64tab.getD k 0 : Nat) : Int))
theorem DB.below {w w' : World} (h : DB w) (hb : Below w.heap.size w w') : DB w' := fun k hk => cell_chg (F := fun _ => False) (h k hk) (Chg.of_below hb) (fun f => f)
theorem DB.chg {F : Nat → Prop} {w w' : World} (h : DB w) (hc : Chg F w w') (hF : ¬ F 0) : DB w' := fun k hk => cell_chg (h k hk) hc hF
theorem tz_run (x k idx : Nat) (w : World) (hx0 : ((x : Int) == 0) = false)
    (key : IntKind.u64.wrap (bits BinOp.and IntKind.u64 (x : Int) (IntKind.u64.wrap (-(x : Int))) * 285870213051353865) / 288230376151711744 = (idx : Int))
    (hi : idx < 64) (hk : k < 64) (hcell : w.cell? ⟨0, idx, none⟩ = some (.int .u8 k)) :
    Calls Tryd.prog 78 #[.int .u64 x] w fun e w' => e = .returned (.int .i64 k) ∧ w = w' := by
  go_enter Tryd.func78, Tryd.ntmps78
  go_wp2_with (simp only [key])
  go_ret
  exact ⟨rfl, rfl⟩
/-- the lowest bit's place -/
theorem tz_any (x : Nat) (hx : x < 18446744073709551616) (h0 : x ≠ 0) (w : World) (hD : DB w) :
    Calls Tryd.prog 78 #[.int .u64 x] w fun e w' => e = .returned (.int .i64 (Lib.ctz 64 x)) ∧ w = w' := by
  obtain ⟨hlow, hk⟩ := Lib.lowest_bit 64 x h0 hx
  obtain ⟨hi, htab⟩ := Lib.deBruijn64_at _ hk
  have hcell := hD _ hi
  rw [htab] at hcell
  exact tz_run x _ _ w (by simp; omega) (tz64_key x _ hx h0 hlow) hi hk hcell
theorem u64_pred (c : Nat) (hc : c < 18446744073709551616) (h0 : c ≠ 0) : bits BinOp.and IntKind.u64 (c : Int) ((c : Int) - 1) = ((c &&& (c - 1) : Nat) : Int) := by
  rw [show (c : Int) - 1 = ((c - 1 : Nat) : Int) by omega, bits_and_u64_nat _ _ hc (by omega)]
theorem bits_list (x : Nat) (hx : x < 18446744073709551616) (w : World) (hD : DB w) :
    Calls Tryd.prog 51 #[.int .u64 x] w fun e w' => ∃ v, e = .returned v ∧ OwnL encN w' w.heap.size 3 1 v (bitsL x 64) ∧ Below w.heap.size w w' := by
  have h00 : (.int .u64 x : Value) = .int .u64 (fromB x 0) := by rw [fromB_zero]
  rw [h00]
  go_enter Tryd.func51, Tryd.ntmps51
  go_wp2_with (fail)
  go_loopw [0, 3] (fun a v wr => ∃ p : Nat, p ≤ 64 ∧ a = .int .u64 (fromB x p) ∧ OwnL encN wr w.heap.size 3 1 v (bitsL x p) ∧ Below w.heap.size w wr) (fun a _ _ => (intOf a).toNat)
  case atStart => exact ⟨0, Nat.zero_le _, rfl, OwnL.nil, Below.refl _ _⟩
  case round =>
    obtain ⟨p, hp, rfl, hO, hL⟩ := hrel
    obtain ⟨A, c, e, _, _⟩ := hO.form
    subst e
    have hlt := Nat.lt_of_le_of_lt (fromB_le x p) hx
    by_cases h0 : fromB x p = 0
    · have hov := bits_over x p hp h0
      rw [hov] at hO ⊢
      rw [h0]
      generalize (bitsL x 64).length = m at *
      go_wp2_with (fail)
      go_ret
      exact ⟨_, rfl, hO, hL⟩
    · obtain ⟨hm, hpm, hb, hs, hn⟩ := bits_round x p hx h0
      have hT := tz_any (fromB x p) hlt h0 wr (hD.below hL)
      have hle := bitsL_le x p
      have hP := u64_pred (fromB x p) hlt h0
      have hdec : fromB x p &&& (fromB x p - 1) < fromB x p := Nat.lt_of_le_of_lt Nat.and_le_right (by omega)
      rw [hn] at hP hdec
      have hz : ((fromB x p : Int) == 0) = false := by simp; omega
      have hlt0 := hO.lt
      generalize Lib.ctz 64 (fromB x p) = m at *
      generalize hc1 : fromB x (m + 1) = c1 at *
      have HC := Lib.hid hc1
      clear hc1
      generalize fromB x p = c0 at *
      have HP := Lib.hid hP
      have HS := Lib.hid hs
      have HT := Lib.hid hT
      have HN := Lib.hid hn
      clear hP hs hT hn hb
      go_wp2_with (fail)
      refine HT.out.mono ?_
      rintro e w1 ⟨rfl, rfl⟩
      go_wp2_with (first | (at_builtin; ((refine wpList_push rfl _ _ 34 rfl w.heap.size 3 Tryd.underlying34 infoInt rfl (by decide) (by decide) encN (bitsL x p) _ rfl (hO.alloc _) (m : Int) wr.heap.size #[.int .i64 m] 3 rfl (Blk.new _ _ _) rfl rfl (encN_one _) ?_ ?_ ?_; (· omega); (· have := hL.size; simp; omega); (intro v2 w2 hown2 hg2 hloc2 _; obtain ⟨A2, c2, rfl⟩ := OwnL.slice hown2)))) | fail)
      have hX2 := (((Ext.mk hL).alloc (.cells #[.int .i64 m] 3)).grown hg2 (fun j e => (hlt0 j e).1)).below
      have hown3 : OwnL encN w2 w.heap.size 3 1 (.slice A2 ((bitsL x p).length + 1) c2) (bitsL x (m + 1)) := by
        rw [List.length_append, List.length_singleton] at hown2
        rw [HS.out]
        exact hown2
      rw [HP.out]
      exact ⟨⟨m + 1, hm, by rw [HC.out], hown3, hX2⟩, by simp [intOf]; omega⟩
end Go.Proofs.YtniejidekflmiaaDoor
