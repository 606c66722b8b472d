/- How many bits are set: bits.OnesCount64, bits.Count; ref2. -/
import Derived.Test.YtniejidekflmiaaDoorProg
import Derived.Test.YtniejidekflmiaaDoorBase
import Derived.Test.YtniejidekflmiaaDoorHeldX
import Derived.Test.YtniejidekflmiaaDoorApp
import Derived.Test.YtniejidekflmiaaDoorTsk1
import Derived.Test.YtniejidekflmiaaDoorTsk3
import Derived.Test.YtniejidekflmiaaDoorNumP
import Derived.Deep.Cut
import Derived.Lib.Hide
import Derived.Laws.Bits64b
import Derived.Laws.Bits128
namespace Go.Proofs.YtniejidekflmiaaDoor
open Go.RowKit
set_option linter.unusedSimpArgs false
set_option maxRecDepth 100000
set_option maxHeartbeats 6400000

theorem u64_nat {n : Nat} (h : n < 18446744073709551616) : IntKind.u64.wrap (n : Int) = (n : Int) := by
  rw [IntKind.wrap_u64]
  omega
theorem ones_steps (x : Nat) (hx : x < 18446744073709551616) : ∃ y1 y2 y3 z1 z2 z3 : Nat,
    IntKind.u64.wrap (bits BinOp.and IntKind.u64 ((x : Int) / 2) 6148914691236517205 + bits BinOp.and IntKind.u64 (x : Int) 6148914691236517205) = (y1 : Int) ∧
    IntKind.u64.wrap (bits BinOp.and IntKind.u64 ((y1 : Int) / 4) 3689348814741910323 + bits BinOp.and IntKind.u64 (y1 : Int) 3689348814741910323) = (y2 : Int) ∧
    bits BinOp.and IntKind.u64 (IntKind.u64.wrap ((y2 : Int) / 16 + (y2 : Int))) 1085102592571150095 = (y3 : Int) ∧
    IntKind.u64.wrap ((y3 : Int) + (y3 : Int) / 256) = (z1 : Int) ∧ IntKind.u64.wrap ((z1 : Int) + (z1 : Int) / 65536) = (z2 : Int) ∧ IntKind.u64.wrap ((z2 : Int) + (z2 : Int) / 4294967296) = (z3 : Int) ∧
    z3 % 128 = popN 64 x ∧ z3 < 18446744073709551616 := by
  have r85 : rep 85 8 = 6148914691236517205 := by decide
  have r51 : rep 51 8 = 3689348814741910323 := by decide
  have r15 : rep 15 8 = 1085102592571150095 := by decide
  have s1 := st1 8 x hx
  rw [r85] at s1
  have hy1 : mapD t1 8 x < 18446744073709551616 := by
    rw [← s1]
    have a := Nat.and_le_right (n := x / 2) (m := 6148914691236517205)
    have b := Nat.and_le_right (n := x) (m := 6148914691236517205)
    omega
  have s2 := st2 8 (mapD t1 8 x) hy1
  rw [r51] at s2
  have s3 := all_steps 8 x hx
  rw [r15] at s3
  have hy2 : mapD t2 8 (mapD t1 8 x) ≤ 7378697629483820646 := by
    rw [← s2]
    have a := Nat.and_le_right (n := mapD t1 8 x / 4) (m := 3689348814741910323)
    have b := Nat.and_le_right (n := mapD t1 8 x) (m := 3689348814741910323)
    omega
  generalize mapD t2 8 (mapD t1 8 x) = y2 at *
  generalize mapD t1 8 x = y1 at *
  have hend := fun (z1 z2 z3 : Nat) h1 h2 h3 => ones_end x (y := mapD (popN 8) 8 x) (z1 := z1) (z2 := z2) (z3 := z3) rfl h1 h2 h3
  generalize mapD (popN 8) 8 x = y3 at *
  obtain ⟨z1, k1⟩ : ∃ z, z = y3 + y3 / 256 := ⟨_, rfl⟩
  obtain ⟨z2, k2⟩ : ∃ z, z = z1 + z1 / 65536 := ⟨_, rfl⟩
  obtain ⟨z3, k3⟩ : ∃ z, z = z2 + z2 / 4294967296 := ⟨_, rfl⟩
  obtain ⟨e, b1, b2, b3, b4⟩ := hend z1 z2 z3 k1 k2 k3
  clear hend
  refine ⟨y1, y2, y3, z1, z2, z3, ?_, ?_, ?_, ?_, ?_, ?_, e, b4⟩
  · rw [show ((x : Int) / 2) = ((x / 2 : Nat) : Int) by omega, show (6148914691236517205 : Int) = ((6148914691236517205 : Nat) : Int) from rfl, bits_and_u64_nat _ _ (by omega) (by decide), bits_and_u64_nat _ _ hx (by decide), ← Int.natCast_add, s1, u64_nat hy1]
  · rw [show ((y1 : Int) / 4) = ((y1 / 4 : Nat) : Int) by omega, show (3689348814741910323 : Int) = ((3689348814741910323 : Nat) : Int) from rfl, bits_and_u64_nat _ _ (by omega) (by decide), bits_and_u64_nat _ _ hy1 (by decide), ← Int.natCast_add, s2, u64_nat (by omega)]
  · rw [show ((y2 : Int) / 16 + y2) = ((y2 / 16 + y2 : Nat) : Int) by omega, show (1085102592571150095 : Int) = ((1085102592571150095 : Nat) : Int) from rfl, u64_nat (by omega), bits_and_u64_nat _ _ (by omega) (by decide), s3]
  · rw [show ((y3 : Int) + (y3 : Int) / 256) = (z1 : Int) by omega, u64_nat (by omega)]
  · rw [show ((z1 : Int) + (z1 : Int) / 65536) = (z2 : Int) by omega, u64_nat (by omega)]
  · rw [show ((z2 : Int) + (z2 : Int) / 4294967296) = (z3 : Int) by omega, u64_nat b4]
theorem ones_fin (z n : Nat) (h : z % 128 = n) : bits BinOp.and IntKind.i64 (wrap64 (z : Int)) 127 = (n : Int) := by
  rw [i64_and127, ← h]
  unfold wrap64
  omega
theorem ret_i {a b : Int} (h : a = b) : Ending.returned (.int .i64 a) = .returned (.int .i64 b) := by rw [h]
attribute [local irreducible] popN
theorem ones_any (x : Nat) (hx : x < 18446744073709551616) (w : World) :
    Calls Tryd.prog 84 #[.int .u64 x] w fun e w' => e = .returned (.int .i64 (popN 64 x)) ∧ w = w' := by
  obtain ⟨y1, y2, y3, z1, z2, z3, e1, e2, e3, e4, e5, e6, e7, hz⟩ := ones_steps x hx
  go_enter Tryd.func84, Tryd.ntmps84
  go_wp2_with (fail)
  go_ret
  exact ⟨ret_i (ones_fin z3 _ e7), rfl⟩
theorem count_any (x : Nat) (hx : x < 18446744073709551616) (w : World) :
    Calls Tryd.prog 63 #[.int .u64 x] w fun e w' => e = .returned (.int .i64 (popN 64 x)) ∧ w = w' := by
  go_enter Tryd.func63, Tryd.ntmps63
  go_wp2_with (fail)
  refine (ones_any x hx _).mono ?_
  rintro e w1 ⟨rfl, rfl⟩
  go_wp2_with (fail)
  go_ret
  exact ⟨rfl, rfl⟩
theorem has_bit (x i : Nat) (hx : x < 18446744073709551616) : (bits BinOp.and IntKind.u64 ((x : Int) / 2 ^ i) 1 == 1) = x.testBit i := by
  have h2 : ((x : Int) / 2 ^ i) = ((x / 2 ^ i : Nat) : Int) := by push_cast; rfl
  have h3 : x / 2 ^ i < 18446744073709551616 := Nat.lt_of_le_of_lt (Nat.div_le_self _ _) hx
  rw [h2]
  generalize hq : x / 2 ^ i = q at *
  rw [Nat.testBit_eq_decide_div_mod_eq, hq, show (1 : Int) = ((1 : Nat) : Int) from rfl, bits_and_u64_nat _ _ h3 (by decide), Nat.and_one_is_mod, Bool.eq_iff_iff, beq_iff_eq, decide_eq_true_eq]
  omega
theorem has_any (x : Nat) (i : Nat) (hi : i < 64) (hx : x < 18446744073709551616) (w : World) :
    Calls Tryd.prog 69 #[.int .u64 x, .int .i64 i] w fun e w' => e = .returned (.bool (x.testBit i)) ∧ w = w' := by
  go_enter Tryd.func69, Tryd.ntmps69
  go_wp2_with (fail)
  go_ret
  exact ⟨rb (has_bit x i hx), rfl⟩
/-- the set bits below k -/
def bitsL (x k : Nat) : List Int := ((List.range k).filter x.testBit).map fun (i : Nat) => (i : Int)
theorem bitsL_step (x k : Nat) : bitsL x (k + 1) = bif x.testBit k then bitsL x k ++ [(k : Int)] else bitsL x k := by
  unfold bitsL
  rw [List.range_succ, List.filter_append]
  cases h : x.testBit k <;> simp [h]
theorem bitsL_len (x k : Nat) : (bitsL x k).length = popN k x := by
  unfold bitsL popN
  rw [List.length_map, List.countP_eq_length_filter]
theorem bitsL_le (x k : Nat) : (bitsL x k).length ≤ k := by
  unfold bitsL
  rw [List.length_map]
  exact Nat.le_trans (List.length_filter_le _ _) (by simp)
theorem infoInt : (Tryd.prog.info? 3).map (fun i => (i.zero, i.size, i.bytes)) = some (some (.int .i64 0), 1, 8) := by kernel_rfl
def encN (x : Int) : List Value := [.int .i64 x]
theorem OwnL.slice {α : Type} {enc : α → List Value} {w : World} {base size : Nat} {e : TypeId} {v : Value} {xs : List α} (h : OwnL enc w base e size v xs) : ∃ A c, v = .slice A xs.length c := by
  obtain ⟨A, c, e, _, _⟩ := h.form
  exact ⟨A, c, e⟩
theorem encN_one (y : Int) : ∀ u ∈ encN y, u.oneCell' = true := by
  intro u hu
  obtain rfl := List.mem_singleton.1 hu
  rfl
theorem list2_any (x : Nat) (hx : x < 18446744073709551616) (w : World) :
    Calls Tryd.prog 43 #[.int .u64 x] w fun e w' => ∃ v, e = .returned v ∧ OwnL encN w' w.heap.size 3 1 v (bitsL x 64) ∧ Below w.heap.size w w' := by
  go_enter Tryd.func43, Tryd.ntmps43
  go_wp2_with (fail)
  go_loopw [3, 4] (fun v i wr => ∃ k : Nat, k ≤ 64 ∧ i = .int .i64 k ∧ OwnL encN wr w.heap.size 3 1 v (bitsL x k) ∧ Below w.heap.size w wr) (fun _ i _ => 64 - (intOf i).toNat)
  case atStart => exact ⟨0, Nat.zero_le _, rfl, OwnL.nil, Below.refl _ _⟩
  case round =>
    obtain ⟨k, hk, rfl, hO, hL⟩ := hrel
    obtain ⟨A, c, e, _, _⟩ := hO.form
    subst e
    by_cases hlt : k < 64
    · have hs := bitsL_step x k
      have hle := bitsL_le x k
      go_wp2_with (fail)
      refine (has_any x k hlt hx _).mono ?_
      rintro e w1 ⟨rfl, rfl⟩
      cases hq : x.testBit k with
      | false =>
        rw [hq] at hs
        simp only [cond_false] at hs
        have hO1 : OwnL encN wr w.heap.size 3 1 (.slice A (bitsL x k).length c) (bitsL x (k + 1)) := by rw [hs]; exact hO
        clear hs hO hle
        generalize (bitsL x k).length = m at *
        go_wp2_with (fail)
        exact ⟨⟨k + 1, hlt, rfl, hO1, hL⟩, by simp [intOf]; omega⟩
      | true =>
        rw [hq] at hs
        simp only [cond_true] at hs
        have H := Lib.hid hs
        clear hs
        have hlt0 := hO.lt
        go_wp2_with (at_builtin; ((refine wpList_push rfl _ _ 34 rfl w.heap.size 3 Tryd.underlying34 infoInt rfl (by decide) (by decide) encN (bitsL x k) _ rfl (hO.alloc _) (k : Int) wr.heap.size #[.int .i64 k] 3 rfl (Blk.new _ _ _) rfl rfl (encN_one _) ?_ ?_ ?_; (· omega); (· have := hL.size; simp; omega); (intro v2 w2 hown2 hg2 hloc2 _; obtain ⟨A2, c2, rfl⟩ := OwnL.slice hown2))))
        have hX2 := (((Ext.mk hL).alloc (.cells #[.int .i64 k] 3)).grown hg2 (fun j e => (hlt0 j e).1)).below
        have hown3 : OwnL encN w2 w.heap.size 3 1 (.slice A2 ((bitsL x k).length + 1) c2) (bitsL x (k + 1)) := by
          rw [List.length_append, List.length_singleton] at hown2
          rw [H.out]
          exact hown2
        exact ⟨⟨k + 1, hlt, rfl, hown3, hX2⟩, by simp [intOf]; omega⟩
    · obtain rfl : k = 64 := by omega
      generalize (bitsL x 64).length = m at *
      go_wp2_with (fail)
      go_ret
      exact ⟨_, rfl, hO, hL⟩
theorem count2_any (x : Nat) (hx : x < 18446744073709551616) (w : World) :
    Calls Tryd.prog 29 #[.int .u64 x] w fun e w' => e = .returned (.int .i64 (popN 64 x)) ∧ Below w.heap.size w w' := by
  go_enter Tryd.func29, Tryd.ntmps29
  go_wp2_with (fail)
  refine (list2_any x hx _).mono ?_
  rintro e w1 ⟨v, rfl, hO, hb⟩
  obtain ⟨A, c, e, _, _⟩ := hO.form
  subst e
  rw [bitsL_len]
  go_wp2_with (fail)
  go_ret
  exact ⟨rfl, hb⟩
end Go.Proofs.YtniejidekflmiaaDoor
