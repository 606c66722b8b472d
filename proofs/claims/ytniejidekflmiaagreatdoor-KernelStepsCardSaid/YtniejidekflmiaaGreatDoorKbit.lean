/- How many bits are set: bits.OnesCount64, bits.Count; ref2. -/
import Derived.Test.YtniejidekflmiaaGreatDoorProg
import Derived.Test.YtniejidekflmiaaGreatDoorBase
import Derived.Test.YtniejidekflmiaaGreatDoorHeldX
import Derived.Test.YtniejidekflmiaaGreatDoorApp
import Derived.Test.YtniejidekflmiaaGreatDoorTsk1
import Derived.Test.YtniejidekflmiaaGreatDoorTsk3
import Derived.Test.YtniejidekflmiaaGreatDoorNumP
import Derived.Test.YtniejidekflmiaaGreatDoorExt0
import Derived.Test.YtniejidekflmiaaGreatDoorChg
import Derived.Deep.Cut
import Derived.Lib.Hide
import Derived.Laws.Bits64b
import Derived.Laws.Bits128
import Derived.Lib.TrailingZeros
import Derived.Shelf.Spec.TrailingZeros
namespace Go.Proofs.YtniejidekflmiaaGreatDoor
open Go.RowKit
set_option linter.unusedSimpArgs false
set_option maxRecDepth 100000
set_option maxHeartbeats 6400000

theorem u64_nat {n : Nat} (h : n < 18446744073709551616) : IntKind.u64.wrap (n : Int) = (n : Int) := by
  rw [IntKind.wrap_u64]
  omega
theorem ones_steps (x : Nat) (hx : x < 18446744073709551616) : ∃ y1 y2 y3 z1 z2 z3 : Nat,
    IntKind.u64.wrap (bits BinOp.and IntKind.u64 ((x : Int) / 2) 6148914691236517205 + bits BinOp.and IntKind.u64 (x : Int) 6148914691236517205) = (y1 : Int) ∧
    IntKind.u64.wrap (bits BinOp.and IntKind.u64 ((y1 : Int) / 4) 3689348814741910323 + bits BinOp.and IntKind.u64 (y1 : Int) 3689348814741910323) = (y2 : Int) ∧
    bits BinOp.and IntKind.u64 (IntKind.u64.wrap ((y2 : Int) / 16 + (y2 : Int))) 1085102592571150095 = (y3 : Int) ∧
    IntKind.u64.wrap ((y3 : Int) + (y3 : Int) / 256) = (z1 : Int) ∧ IntKind.u64.wrap ((z1 : Int) + (z1 : Int) / 65536) = (z2 : Int) ∧ IntKind.u64.wrap ((z2 : Int) + (z2 : Int) / 4294967296) = (z3 : Int) ∧
    z3 % 128 = popN 64 x ∧ z3 < 18446744073709551616 := by
  have r85 : rep 85 8 = 6148914691236517205 := by decide
  have r51 : rep 51 8 = 3689348814741910323 := by decide
  have r15 : rep 15 8 = 1085102592571150095 := by decide
  have s1 := st1 8 x hx
  rw [r85] at s1
  have hy1 : mapD t1 8 x < 18446744073709551616 := by
    rw [← s1]
    have a := Nat.and_le_right (n := x / 2) (m := 6148914691236517205)
    have b := Nat.and_le_right (n := x) (m := 6148914691236517205)
    omega
  have s2 := st2 8 (mapD t1 8 x) hy1
  rw [r51] at s2
  have s3 := all_steps 8 x hx
  rw [r15] at s3
  have hy2 : mapD t2 8 (mapD t1 8 x) ≤ 7378697629483820646 := by
    rw [← s2]
    have a := Nat.and_le_right (n := mapD t1 8 x / 4) (m := 3689348814741910323)
    have b := Nat.and_le_right (n := mapD t1 8 x) (m := 3689348814741910323)
    omega
  generalize mapD t2 8 (mapD t1 8 x) = y2 at *
  generalize mapD t1 8 x = y1 at *
  have hend := fun (z1 z2 z3 : Nat) h1 h2 h3 => ones_end x (y := mapD (popN 8) 8 x) (z1 := z1) (z2 := z2) (z3 := z3) rfl h1 h2 h3
  generalize mapD (popN 8) 8 x = y3 at *
  obtain ⟨z1, k1⟩ : ∃ z, z = y3 + y3 / 256 := ⟨_, rfl⟩
  obtain ⟨z2, k2⟩ : ∃ z, z = z1 + z1 / 65536 := ⟨_, rfl⟩
  obtain ⟨z3, k3⟩ : ∃ z, z = z2 + z2 / 4294967296 := ⟨_, rfl⟩
  obtain ⟨e, b1, b2, b3, b4⟩ := hend z1 z2 z3 k1 k2 k3
  clear hend
  refine ⟨y1, y2, y3, z1, z2, z3, ?_, ?_, ?_, ?_, ?_, ?_, e, b4⟩
  · rw [show ((x : Int) / 2) = ((x / 2 : Nat) : Int) by omega, show (6148914691236517205 : Int) = ((6148914691236517205 : Nat) : Int) from rfl, bits_and_u64_nat _ _ (by omega) (by decide), bits_and_u64_nat _ _ hx (by decide), ← Int.natCast_add, s1, u64_nat hy1]
  · rw [show ((y1 : Int) / 4) = ((y1 / 4 : Nat) : Int) by omega, show (3689348814741910323 : Int) = ((3689348814741910323 : Nat) : Int) from rfl, bits_and_u64_nat _ _ (by omega) (by decide), bits_and_u64_nat _ _ hy1 (by decide), ← Int.natCast_add, s2, u64_nat (by omega)]
  · rw [show ((y2 : Int) / 16 + y2) = ((y2 / 16 + y2 : Nat) : Int) by omega, show (1085102592571150095 : Int) = ((1085102592571150095 : Nat) : Int) from rfl, u64_nat (by omega), bits_and_u64_nat _ _ (by omega) (by decide), s3]
  · rw [show ((y3 : Int) + (y3 : Int) / 256) = (z1 : Int) by omega, u64_nat (by omega)]
  · rw [show ((z1 : Int) + (z1 : Int) / 65536) = (z2 : Int) by omega, u64_nat (by omega)]
  · rw [show ((z2 : Int) + (z2 : Int) / 4294967296) = (z3 : Int) by omega, u64_nat b4]
theorem ones_fin (z n : Nat) (h : z % 128 = n) : bits BinOp.and IntKind.i64 (wrap64 (z : Int)) 127 = (n : Int) := by
  rw [i64_and127, ← h]
  unfold wrap64
  omega
theorem ret_i {a b : Int} (h : a = b) : Ending.returned (.int .i64 a) = .returned (.int .i64 b) := by rw [h]
attribute [local irreducible] popN
theorem ones_any (x : Nat) (hx : x < 18446744073709551616) (w : World) :
    Calls Tryz.prog 114 #[.int .u64 x] w fun e w' => e = .returned (.int .i64 (popN 64 x)) ∧ w = w' := by
  obtain ⟨y1, y2, y3, z1, z2, z3, e1, e2, e3, e4, e5, e6, e7, hz⟩ := ones_steps x hx
  go_enter Tryz.func114, Tryz.ntmps114
  go_wp2_with (fail)
  go_ret
  exact ⟨ret_i (ones_fin z3 _ e7), rfl⟩
theorem count_any (x : Nat) (hx : x < 18446744073709551616) (w : World) :
    Calls Tryz.prog 73 #[.int .u64 x] w fun e w' => e = .returned (.int .i64 (popN 64 x)) ∧ w = w' := by
  go_enter Tryz.func73, Tryz.ntmps73
  go_wp2_with (fail)
  refine (ones_any x hx _).mono ?_
  rintro e w1 ⟨rfl, rfl⟩
  go_wp2_with (fail)
  go_ret
  exact ⟨rfl, rfl⟩
theorem has_bit (x i : Nat) (hx : x < 18446744073709551616) : (bits BinOp.and IntKind.u64 ((x : Int) / 2 ^ i) 1 == 1) = x.testBit i := by
  have h2 : ((x : Int) / 2 ^ i) = ((x / 2 ^ i : Nat) : Int) := by push_cast; rfl
  have h3 : x / 2 ^ i < 18446744073709551616 := Nat.lt_of_le_of_lt (Nat.div_le_self _ _) hx
  rw [h2]
  generalize hq : x / 2 ^ i = q at *
  rw [Nat.testBit_eq_decide_div_mod_eq, hq, show (1 : Int) = ((1 : Nat) : Int) from rfl, bits_and_u64_nat _ _ h3 (by decide), Nat.and_one_is_mod, Bool.eq_iff_iff, beq_iff_eq, decide_eq_true_eq]
  omega
theorem has_any (x : Nat) (i : Nat) (hi : i < 64) (hx : x < 18446744073709551616) (w : World) :
    Calls Tryz.prog 79 #[.int .u64 x, .int .i64 i] w fun e w' => e = .returned (.bool (x.testBit i)) ∧ w = w' := by
  go_enter Tryz.func79, Tryz.ntmps79
  go_wp2_with (fail)
  go_ret
  exact ⟨rb (has_bit x i hx), rfl⟩
/-- the set bits below k -/
def bitsL (x k : Nat) : List Int := ((List.range k).filter x.testBit).map fun (i : Nat) => (i : Int)
theorem bitsL_step (x k : Nat) : bitsL x (k + 1) = bif x.testBit k then bitsL x k ++ [(k : Int)] else bitsL x k := by
  unfold bitsL
  rw [List.range_succ, List.filter_append]
  cases h : x.testBit k <;> simp [h]
theorem bitsL_len (x k : Nat) : (bitsL x k).length = popN k x := by
  unfold bitsL popN
  rw [List.length_map, List.countP_eq_length_filter]
theorem bitsL_le (x k : Nat) : (bitsL x k).length ≤ k := by
  unfold bitsL
  rw [List.length_map]
  exact Nat.le_trans (List.length_filter_le _ _) (by simp)
theorem infoInt : (Tryz.prog.info? 3).map (fun i => (i.zero, i.size, i.bytes)) = some (some (.int .i64 0), 1, 8) := by kernel_rfl
def encN (x : Int) : List Value := [.int .i64 x]
theorem OwnL.slice {α : Type} {enc : α → List Value} {w : World} {base size : Nat} {e : TypeId} {v : Value} {xs : List α} (h : OwnL enc w base e size v xs) : ∃ A c, v = .slice A xs.length c := by
  obtain ⟨A, c, e, _, _⟩ := h.form
  exact ⟨A, c, e⟩
theorem encN_one (y : Int) : ∀ u ∈ encN y, u.oneCell' = true := by
  intro u hu
  obtain rfl := List.mem_singleton.1 hu
  rfl
theorem list2_any (x : Nat) (hx : x < 18446744073709551616) (w : World) :
    Calls Tryz.prog 118 #[.int .u64 x] w fun e w' => ∃ v, e = .returned v ∧ OwnL encN w' w.heap.size 3 1 v (bitsL x 64) ∧ Below w.heap.size w w' := by
  go_enter Tryz.func118, Tryz.ntmps118
  go_wp2_with (fail)
  go_loopw [3, 4] (fun v i wr => ∃ k : Nat, k ≤ 64 ∧ i = .int .i64 k ∧ OwnL encN wr w.heap.size 3 1 v (bitsL x k) ∧ Below w.heap.size w wr) (fun _ i _ => 64 - (intOf i).toNat)
  case atStart => exact ⟨0, Nat.zero_le _, rfl, OwnL.nil, Below.refl _ _⟩
  case round =>
    obtain ⟨k, hk, rfl, hO, hL⟩ := hrel
    obtain ⟨A, c, e, _, _⟩ := hO.form
    subst e
    by_cases hlt : k < 64
    · have hs := bitsL_step x k
      have hle := bitsL_le x k
      go_wp2_with (fail)
      refine (has_any x k hlt hx _).mono ?_
      rintro e w1 ⟨rfl, rfl⟩
      cases hq : x.testBit k with
      | false =>
        rw [hq] at hs
        simp only [cond_false] at hs
        have hO1 : OwnL encN wr w.heap.size 3 1 (.slice A (bitsL x k).length c) (bitsL x (k + 1)) := by rw [hs]; exact hO
        clear hs hO hle
        generalize (bitsL x k).length = m at *
        go_wp2_with (fail)
        exact ⟨⟨k + 1, hlt, rfl, hO1, hL⟩, by simp [intOf]; omega⟩
      | true =>
        rw [hq] at hs
        simp only [cond_true] at hs
        have H := Lib.hid hs
        clear hs
        have hlt0 := hO.lt
        go_wp2_with (at_builtin; ((refine wpList_push rfl _ _ 74 rfl w.heap.size 3 Tryz.underlying74 infoInt rfl (by decide) (by decide) encN (bitsL x k) _ rfl (hO.alloc _) (k : Int) wr.heap.size #[.int .i64 k] 3 rfl (Blk.new _ _ _) rfl rfl (encN_one _) ?_ ?_ ?_; (· omega); (· have := hL.size; simp; omega); (intro v2 w2 hown2 hg2 hloc2 _; obtain ⟨A2, c2, rfl⟩ := OwnL.slice hown2))))
        have hX2 := (((Ext.mk hL).alloc (.cells #[.int .i64 k] 3)).grown hg2 (fun j e => (hlt0 j e).1)).below
        have hown3 : OwnL encN w2 w.heap.size 3 1 (.slice A2 ((bitsL x k).length + 1) c2) (bitsL x (k + 1)) := by
          rw [List.length_append, List.length_singleton] at hown2
          rw [H.out]
          exact hown2
        exact ⟨⟨k + 1, hlt, rfl, hown3, hX2⟩, by simp [intOf]; omega⟩
    · obtain rfl : k = 64 := by omega
      generalize (bitsL x 64).length = m at *
      go_wp2_with (fail)
      go_ret
      exact ⟨_, rfl, hO, hL⟩
theorem count2_any (x : Nat) (hx : x < 18446744073709551616) (w : World) :
    Calls Tryz.prog 90 #[.int .u64 x] w fun e w' => e = .returned (.int .i64 (popN 64 x)) ∧ Below w.heap.size w w' := by
  go_enter Tryz.func90, Tryz.ntmps90
  go_wp2_with (fail)
  refine (list2_any x hx _).mono ?_
  rintro e w1 ⟨v, rfl, hO, hb⟩
  obtain ⟨A, c, e, _, _⟩ := hO.form
  subst e
  rw [bitsL_len]
  go_wp2_with (fail)
  go_ret
  exact ⟨rfl, hb⟩
end Go.Proofs.YtniejidekflmiaaGreatDoor
/- Bits: the rising list, what has one bit. -/
namespace Go.Proofs.YtniejidekflmiaaGreatDoor
open Go.RowKit
set_option linter.unusedSimpArgs false
set_option maxRecDepth 100000
set_option maxHeartbeats 6400000

/-- x's bits from p on -/
def fromB (x p : Nat) : Nat := x / 2 ^ p * 2 ^ p
theorem fromB_zero (x : Nat) : fromB x 0 = x := by simp [fromB]
theorem fromB_test (x p i : Nat) : (fromB x p).testBit i = (decide (p ≤ i) && x.testBit i) := by
  unfold fromB
  rw [Nat.testBit_mul_two_pow]
  by_cases h : p ≤ i
  · rw [decide_eq_true h, Bool.true_and, Bool.true_and, Nat.testBit_div_two_pow, show i - p + p = i by omega]
  · rw [decide_eq_false h, Bool.false_and, Bool.false_and]
theorem fromB_le (x p : Nat) : fromB x p ≤ x := Nat.div_mul_le_self _ _
theorem low_test (m j i : Nat) : (2 ^ m * (2 * j + 1)).testBit i = (decide (m ≤ i) && (2 * j + 1).testBit (i - m)) := by
  rw [Nat.mul_comm, Nat.testBit_mul_two_pow]
theorem low_pred (m j i : Nat) : (2 ^ m * (2 * j + 1) - 1).testBit i = if i < m then true else (2 * j).testBit (i - m) := by
  have h1 : 0 < 2 ^ m := Nat.two_pow_pos m
  have e : 2 ^ m * (2 * j + 1) - 1 = 2 ^ m * (2 * j) + (2 ^ m - 1) := by rw [Nat.mul_add]; omega
  rw [e, Nat.testBit_two_pow_mul_add _ (by omega)]
  split
  · rename_i h
    rw [Nat.testBit_two_pow_sub_one]
    simp [h]
  · rfl
theorem low_next (m j i : Nat) : (2 ^ m * (2 * j + 1) &&& (2 ^ m * (2 * j + 1) - 1)).testBit i = (decide (m + 1 ≤ i) && (2 ^ m * (2 * j + 1)).testBit i) := by
  rw [Nat.testBit_and, low_pred, low_test]
  rcases Nat.lt_trichotomy i m with h | h | h
  · rw [decide_eq_false (show ¬ m ≤ i by omega)]; simp
  · subst h
    rw [if_neg (by omega), Nat.sub_self, decide_eq_false (show ¬ i + 1 ≤ i by omega)]
    simp
  · obtain ⟨n, rfl⟩ : ∃ n, i = m + (n + 1) := ⟨i - m - 1, by omega⟩
    rw [if_neg (by omega), decide_eq_true (show m ≤ m + (n + 1) by omega), decide_eq_true (show m + 1 ≤ m + (n + 1) by omega), show m + (n + 1) - m = n + 1 by omega, Nat.testBit_succ, Nat.testBit_succ, show (2 * j + 1) / 2 = j by omega, show 2 * j / 2 = j by omega]
    simp
theorem bitsL_gap (x p m : Nat) (hpm : p ≤ m) (h : ∀ c, p ≤ c → c < m → x.testBit c = false) : bitsL x m = bitsL x p := by
  induction m with
  | zero =>
    have : p = 0 := by omega
    rw [this]
  | succ k ih =>
    by_cases hk : p = k + 1
    · rw [hk]
    · rw [bitsL_step, h k (by omega) (by omega), cond_false]
      exact ih (by omega) (fun c h1 h2 => h c h1 (by omega))
/-- the round: the lowest bit of those from p on, and those behind it -/
theorem bits_round (x p : Nat) (hx : x < 18446744073709551616) (h0 : fromB x p ≠ 0) :
    Lib.ctz 64 (fromB x p) < 64 ∧ p ≤ Lib.ctz 64 (fromB x p) ∧ x.testBit (Lib.ctz 64 (fromB x p)) = true ∧ bitsL x (Lib.ctz 64 (fromB x p) + 1) = bitsL x p ++ [(Lib.ctz 64 (fromB x p) : Int)] ∧
    fromB x p &&& (fromB x p - 1) = fromB x (Lib.ctz 64 (fromB x p) + 1) := by
  have hlt : fromB x p < 2 ^ 64 := Nat.lt_of_le_of_lt (fromB_le x p) hx
  obtain ⟨j, hj, hm⟩ := Lib.ctzFrom_spec 64 (fromB x p) (by omega) hlt
  have e : Lib.ctz 64 (fromB x p) = Lib.ctzFrom 64 (fromB x p) := by unfold Lib.ctz; rw [if_neg h0]
  rw [e]
  generalize Lib.ctzFrom 64 (fromB x p) = m at *
  have ht : ∀ i, (decide (p ≤ i) && x.testBit i) = (decide (m ≤ i) && (2 * j + 1).testBit (i - m)) := fun i => by rw [← fromB_test, hj, low_test]
  have hpm : p ≤ m := by
    have := ht m
    rw [decide_eq_true (Nat.le_refl m), Nat.sub_self] at this
    simp at this
    exact this.1
  have hb : x.testBit m = true := by
    have := ht m
    rw [decide_eq_true (Nat.le_refl m), Nat.sub_self] at this
    simp at this
    exact this.2
  refine ⟨hm, hpm, hb, ?_, ?_⟩
  · rw [bitsL_step, hb, cond_true, bitsL_gap x p m hpm]
    intro c h1 h2
    have := ht c
    rw [decide_eq_true h1, decide_eq_false (by omega)] at this
    simpa using this
  · apply Nat.eq_of_testBit_eq
    intro i
    rw [fromB_test]
    have hn := low_next m j i
    rw [← hj] at hn
    rw [hn, fromB_test]
    by_cases h : m + 1 ≤ i
    · rw [decide_eq_true h, decide_eq_true (show p ≤ i by omega)]; simp
    · rw [decide_eq_false h]; simp
theorem bits_over (x p : Nat) (hp : p ≤ 64) (h0 : fromB x p = 0) : bitsL x p = bitsL x 64 := by
  refine (bitsL_gap x p 64 hp ?_).symm
  intro c h1 h2
  have := fromB_test x p c
  rw [h0, decide_eq_true h1] at this
  simpa using this.symm
/-- the table that the library reads -/
def DB (w : World) : Prop := ∀ k, k < 64 → w.cell? ⟨0, k, none⟩ = some (.int .u8 ((Lib.deBruijn64tab.getD k 0 : Nat) : Int))
theorem DB.below {w w' : World} (h : DB w) (hb : Below w.heap.size w w') : DB w' := fun k hk => cell_chg (F := fun _ => False) (h k hk) (Chg.of_below hb) (fun f => f)
theorem DB.chg {F : Nat → Prop} {w w' : World} (h : DB w) (hc : Chg F w w') (hF : ¬ F 0) : DB w' := fun k hk => cell_chg (h k hk) hc hF
theorem tz_run (x k idx : Nat) (w : World) (hx0 : ((x : Int) == 0) = false)
    (key : IntKind.u64.wrap (bits BinOp.and IntKind.u64 (x : Int) (IntKind.u64.wrap (-(x : Int))) * 285870213051353865) / 288230376151711744 = (idx : Int))
    (hi : idx < 64) (hk : k < 64) (hcell : w.cell? ⟨0, idx, none⟩ = some (.int .u8 k)) :
    Calls Tryz.prog 108 #[.int .u64 x] w fun e w' => e = .returned (.int .i64 k) ∧ w = w' := by
  go_enter Tryz.func108, Tryz.ntmps108
  go_wp2_with (simp only [key])
  go_ret
  exact ⟨rfl, rfl⟩
/-- the lowest bit's place -/
theorem tz_any (x : Nat) (hx : x < 18446744073709551616) (h0 : x ≠ 0) (w : World) (hD : DB w) :
    Calls Tryz.prog 108 #[.int .u64 x] w fun e w' => e = .returned (.int .i64 (Lib.ctz 64 x)) ∧ w = w' := by
  obtain ⟨hlow, hk⟩ := Lib.lowest_bit 64 x h0 hx
  obtain ⟨hi, htab⟩ := Lib.deBruijn64_at _ hk
  have hcell := hD _ hi
  rw [htab] at hcell
  exact tz_run x _ _ w (by simp; omega) (tz64_key x _ hx h0 hlow) hi hk hcell
theorem u64_pred (c : Nat) (hc : c < 18446744073709551616) (h0 : c ≠ 0) : bits BinOp.and IntKind.u64 (c : Int) ((c : Int) - 1) = ((c &&& (c - 1) : Nat) : Int) := by
  rw [show (c : Int) - 1 = ((c - 1 : Nat) : Int) by omega, bits_and_u64_nat _ _ hc (by omega)]
theorem bits_list (x : Nat) (hx : x < 18446744073709551616) (w : World) (hD : DB w) :
    Calls Tryz.prog 61 #[.int .u64 x] w fun e w' => ∃ v, e = .returned v ∧ OwnL encN w' w.heap.size 3 1 v (bitsL x 64) ∧ Below w.heap.size w w' := by
  have h00 : (.int .u64 x : Value) = .int .u64 (fromB x 0) := by rw [fromB_zero]
  rw [h00]
  go_enter Tryz.func61, Tryz.ntmps61
  go_wp2_with (fail)
  go_loopw [0, 3] (fun a v wr => ∃ p : Nat, p ≤ 64 ∧ a = .int .u64 (fromB x p) ∧ OwnL encN wr w.heap.size 3 1 v (bitsL x p) ∧ Below w.heap.size w wr) (fun a _ _ => (intOf a).toNat)
  case atStart => exact ⟨0, Nat.zero_le _, rfl, OwnL.nil, Below.refl _ _⟩
  case round =>
    obtain ⟨p, hp, rfl, hO, hL⟩ := hrel
    obtain ⟨A, c, e, _, _⟩ := hO.form
    subst e
    have hlt := Nat.lt_of_le_of_lt (fromB_le x p) hx
    by_cases h0 : fromB x p = 0
    · have hov := bits_over x p hp h0
      rw [hov] at hO ⊢
      rw [h0]
      generalize (bitsL x 64).length = m at *
      go_wp2_with (fail)
      go_ret
      exact ⟨_, rfl, hO, hL⟩
    · obtain ⟨hm, hpm, hb, hs, hn⟩ := bits_round x p hx h0
      have hT := tz_any (fromB x p) hlt h0 wr (hD.below hL)
      have hle := bitsL_le x p
      have hP := u64_pred (fromB x p) hlt h0
      have hdec : fromB x p &&& (fromB x p - 1) < fromB x p := Nat.lt_of_le_of_lt Nat.and_le_right (by omega)
      rw [hn] at hP hdec
      have hz : ((fromB x p : Int) == 0) = false := by simp; omega
      have hlt0 := hO.lt
      generalize Lib.ctz 64 (fromB x p) = m at *
      generalize hc1 : fromB x (m + 1) = c1 at *
      have HC := Lib.hid hc1
      clear hc1
      generalize fromB x p = c0 at *
      have HP := Lib.hid hP
      have HS := Lib.hid hs
      have HT := Lib.hid hT
      have HN := Lib.hid hn
      clear hP hs hT hn hb
      go_wp2_with (fail)
      refine HT.out.mono ?_
      rintro e w1 ⟨rfl, rfl⟩
      go_wp2_with (first | (at_builtin; ((refine wpList_push rfl _ _ 74 rfl w.heap.size 3 Tryz.underlying74 infoInt rfl (by decide) (by decide) encN (bitsL x p) _ rfl (hO.alloc _) (m : Int) wr.heap.size #[.int .i64 m] 3 rfl (Blk.new _ _ _) rfl rfl (encN_one _) ?_ ?_ ?_; (· omega); (· have := hL.size; simp; omega); (intro v2 w2 hown2 hg2 hloc2 _; obtain ⟨A2, c2, rfl⟩ := OwnL.slice hown2)))) | fail)
      have hX2 := (((Ext.mk hL).alloc (.cells #[.int .i64 m] 3)).grown hg2 (fun j e => (hlt0 j e).1)).below
      have hown3 : OwnL encN w2 w.heap.size 3 1 (.slice A2 ((bitsL x p).length + 1) c2) (bitsL x (m + 1)) := by
        rw [List.length_append, List.length_singleton] at hown2
        rw [HS.out]
        exact hown2
      rw [HP.out]
      exact ⟨⟨m + 1, hm, by rw [HC.out], hown3, hX2⟩, by simp [intOf]; omega⟩
end Go.Proofs.YtniejidekflmiaaGreatDoor
