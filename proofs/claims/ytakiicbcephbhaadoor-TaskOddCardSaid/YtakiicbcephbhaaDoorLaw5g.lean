import Derived.Test.YtakiicbcephbhaaDoorProg
import Derived.Test.YtakiicbcephbhaaDoorBase
import Derived.Test.YtakiicbcephbhaaDoorBase2
import Derived.Test.YtakiicbcephbhaaDoorHeld
import Derived.Test.YtakiicbcephbhaaDoorHeldX
import Derived.Test.YtakiicbcephbhaaDoorLexM
import Derived.Test.YtakiicbcephbhaaDoorLex1
import Derived.Test.YtakiicbcephbhaaDoorLex3
import Derived.Test.YtakiicbcephbhaaDoorTskM
import Derived.Test.YtakiicbcephbhaaDoorTsk1
import Derived.Test.YtakiicbcephbhaaDoorTsk2
import Derived.Test.YtakiicbcephbhaaDoorTsk3
import Derived.Test.YtakiicbcephbhaaDoorTsk4
import Derived.Test.YtakiicbcephbhaaDoorTskZ
import Derived.Test.YtakiicbcephbhaaDoorTskA
import Derived.Test.YtakiicbcephbhaaDoorTskO
import Derived.Test.YtakiicbcephbhaaDoorSetO
import Derived.Test.YtakiicbcephbhaaDoorLaw5a
import Derived.Deep.Cut
import Derived.Lib.Hide
namespace Go.Proofs.YtakiicbcephbhaaDoor
open Go.RowKit
attribute [local go_sem] setCell_twice ByteArray.toList_eq str_list Ext.alloc Ext.drew
set_option linter.unusedSimpArgs false

theorem odd_all1 : allB ⟨0, [plainT (str [97]), plainT (str [97])]⟩ = false := by decide +kernel
theorem odd_all2 : allB ⟨0, [plainT (str [97]), plainT (str [98])]⟩ = true := by decide +kernel
theorem odd_all3 : allB ⟨0, []⟩ = false := by decide +kernel
theorem odd_is : isB (plainT (str [97])) 1 = true := by decide +kernel
theorem plain_good (s : ByteArray) (h : s.size ≤ maxLen) : (plainT s).name.size ≤ maxLen := h
theorem tasks_two {w : World} {g : Nat} {t1 t2 : Tsk} {r1 r2 : Value} (hB : Blk w g #[.string t1.name, .int .i64 t1.T, .int .i64 t1.D, .int .i64 t1.mode, .int .i64 t1.q, .int .i64 t1.theta, r1, .int .u64 t1.ecb, .int .u64 t1.ucb, .string t2.name, .int .i64 t2.T, .int .i64 t2.D, .int .i64 t2.mode, .int .i64 t2.q, .int .i64 t2.theta, r2, .int .u64 t2.ecb, .int .u64 t2.ucb] 42)
    (h1 : Ints w r1 t1.regs) (h2 : Ints w r2 t2.regs) : Tasks w (.slice (some ⟨g, 0, none⟩) 2 2) [t1, t2] := by
  refine ⟨_, 2, rfl, by simp, by unfold maxLen; omega, fun _ => ⟨g, 0, rfl, fun i hi => ?_⟩⟩
  have : i = 0 ∨ i = 1 := by simp at hi; omega
  rcases this with rfl | rfl
  · exact ⟨r1, h1, hB.cell _, hB.cell _, hB.cell _, hB.cell _, hB.cell _, hB.cell _, hB.cell _, hB.cell _, hB.cell _⟩
  · exact ⟨r2, h2, hB.cell _, hB.cell _, hB.cell _, hB.cell _, hB.cell _, hB.cell _, hB.cell _, hB.cell _, hB.cell _⟩
theorem tasks_none (w : World) : Tasks w (.slice none 0 0) [] := ⟨none, 0, rfl, by simp, by unfold maxLen; omega, fun h => absurd rfl h⟩

theorem ints_blk {W : World} {g : Nat} {xs : List Int} (hB : Blk W g ((xs.map (Value.int .i64)).toArray) 2) (hx : xs.length ≤ maxLen) : Ints W (.slice (some ⟨g, 0, none⟩) xs.length xs.length) xs :=
  ⟨_, _, rfl, Nat.le_refl _, hx, fun _ => ⟨g, 0, rfl, fun i hi => by rw [hB.cell]; simp [hi]⟩⟩
/-- All of two tasks that are made by hand -/
theorem two_any (a b : ByteArray) (w0 w : World) (r1 r2 : Value) (h1 : Ints w r1 [2, 1]) (h2 : Ints w r2 [2, 1]) (hG : GOK w) (ha : a.size ≤ maxLen) (hb : b.size ≤ maxLen) (hX : Ext w0 w) :
    Calls Tryd.prog 25 #[.agg #[.int .i64 0, .slice (some ⟨w.heap.size, 0, none⟩) 2 2]] (w.alloc (.cells #[.string a, .int .i64 5, .int .i64 5, .int .i64 0, .int .i64 0, .int .i64 0, r1, .int .u64 0, .int .u64 0, .string b, .int .i64 5, .int .i64 5, .int .i64 0, .int .i64 0, .int .i64 0, r2, .int .u64 0, .int .u64 0] 42))
      fun e w' => e = .returned (.bool (allB ⟨0, [plainT a, plainT b]⟩)) ∧ Ext w0 w' :=
  callX (hX.alloc _) (all_any ⟨0, [plainT a, plainT b]⟩ (.slice (some ⟨w.heap.size, 0, none⟩) 2 2) _ (tasks_two (t1 := plainT a) (t2 := plainT b) (Blk.new _ _ _) (h1.ext ((Ext.refl _).alloc _)) (h2.ext ((Ext.refl _).alloc _)))
    (fun t ht => by
      rcases List.mem_cons.1 ht with rfl | ht
      · exact ha
      · obtain rfl := List.mem_singleton.1 ht; exact hb) (hG.below ((Ext.refl _).alloc _).below))

set_option maxHeartbeats 6400000 in
set_option maxRecDepth 100000 in
/-- TaskOdd: what may not be, by hand. -/
theorem taskOdd_walk (way : Int) (w : World) (wi : (Lit.int .i64 way).wf = true) (hG : GOK w) :
    Calls Tryd.prog 12 #[.int .i64 way] w fun e w' => e = .returned (.bool true) ∧ Below w.heap.size w w' := by
  go_enter Tryd.func12, Tryd.ntmps12
  go_wp2_with (fail)
  refine (plain_any (str [97]) _).mono ?_
  rintro e w1 ⟨r, rfl, hr, hb⟩
  have hr0 := hr
  obtain ⟨A, c, rfl, h1, h2, h3⟩ := hr
  change Ints w1 (.slice A 2 c) [2, 1] at hr0
  clear h3
  unfold tskV plainT
  dsimp only
  go_upto_region 2 with (fail)
  rename_i K1 hK1 K2 hK2
  have hL1 : Below w.heap.size w w1 := hb
  have key : ∀ (x1 j4 j5 j6 j7 j8 j9 j10 j11 j12 j13 j14 j15 j16 j17 j18 j19 j20 j21 j22 j23 j24 j25 j26 j27 j28 j29 j30 j31 j32 j33 j34 j35 j36 j37 j38 j39 j40 j41 j42 j43 j44 : Value) (t : Tsk) (r : Value) (W : World), Blk W w1.heap.size #[.string t.name, .int .i64 t.T, .int .i64 t.D, .int .i64 t.mode, .int .i64 t.q, .int .i64 t.theta, r, .int .u64 t.ecb, .int .u64 t.ucb] 42 → Ints W r t.regs → isB t 1 = false → t.name.size ≤ maxLen → Below w1.heap.size w1 W → K1 ⟨#[Value.int .i64 way, x1, .bool false, .pointer (some ⟨w1.heap.size, 0, none⟩), j4, j5, j6, j7, j8, j9, j10, j11, j12, j13, j14, j15, j16, j17, j18, j19, j20, j21, j22, j23, j24, j25, j26, j27, j28, j29, j30, j31, j32, j33, j34, j35, j36, j37, j38, j39, j40, j41, j42, j43, j44, undef, undef, undef, undef, undef, undef, undef, undef, undef, undef, undef, undef, undef, undef, undef, undef, undef, undef, undef, undef, undef, undef, undef, undef, undef, undef, undef, undef, undef, undef], []⟩ W := by
    intro x1 j4 j5 j6 j7 j8 j9 j10 j11 j12 j13 j14 j15 j16 j17 j18 j19 j20 j21 j22 j23 j24 j25 j26 j27 j28 j29 j30 j31 j32 j33 j34 j35 j36 j37 j38 j39 j40 j41 j42 j43 j44 t r W hB hr ht hs hW
    apply hK1
    clear hK1 hK2
    have hG0 := (hG.below hL1).below hW
    have hc := hB.cell
    obtain ⟨A', c', e, _, _, _⟩ := id hr
    subst e
    go_wp2_with (fail)
    refine (is_any t _ 1 W hr hs hG0).mono ?_
    rintro e w2 ⟨rfl, hb2⟩
    rw [ht]
    go_wp2_with (fail)
    refine (plain_any (str [97]) _).mono ?_
    rintro e w3 ⟨r3, rfl, hr3, hb3⟩
    have hX3 : Ext W w3 := (Ext.mk hb2).trans ⟨hb3⟩
    go_wp2_with (fail)
    refine (is_any (plainT (str [97])) _ 1 w3 hr3 (by unfold maxLen; decide) (hG0.below hX3.below)).mono ?_
    rintro e w4 ⟨rfl, hb4⟩
    rw [odd_is]
    have hX4 : Ext W w4 := hX3.trans ⟨hb4⟩
    go_wp2_with (fail)
    refine (plain_any (str [97]) _).mono ?_
    rintro e w5 ⟨r5, rfl, hr5, hb5⟩
    go_wp2_with (fail)
    refine (plain_any (str [97]) _).mono ?_
    rintro e w6 ⟨r6, rfl, hr6, hb6⟩
    have hX6 : Ext W w6 := (hX4.trans ⟨hb5⟩).trans ⟨hb6⟩
    unfold tskV plainT
    dsimp only
    go_wp2_with (fail)
    refine (two_any (str [97]) (str [97]) W w6 r5 r6 (hr5.ext ⟨hb6⟩) hr6 (hG0.below hX6.below) (by unfold maxLen; decide) (by unfold maxLen; decide) hX6).mono ?_
    rintro e w7 ⟨rfl, hX7⟩
    rw [odd_all1]
    go_wp2_with (fail)
    refine (plain_any (str [97]) _).mono ?_
    rintro e w8 ⟨r8, rfl, hr8, hb8⟩
    go_wp2_with (fail)
    refine (plain_any (str [98]) _).mono ?_
    rintro e w9 ⟨r9, rfl, hr9, hb9⟩
    have hX9 : Ext W w9 := (hX7.trans ⟨hb8⟩).trans ⟨hb9⟩
    unfold tskV plainT
    dsimp only
    go_wp2_with (fail)
    refine (two_any (str [97]) (str [98]) W w9 r8 r9 (hr8.ext ⟨hb9⟩) hr9 (hG0.below hX9.below) (by unfold maxLen; decide) (by unfold maxLen; decide) hX9).mono ?_
    rintro e w10 ⟨rfl, hX10⟩
    rw [odd_all2]
    go_wp2_with (fail)
    refine (callX hX10 (all_any ⟨0, []⟩ (.slice none 0 0) w10 (tasks_none _) (fun t ht => by cases ht) (hG0.below hX10.below))).mono ?_
    rintro e w11 ⟨rfl, hX11⟩
    rw [odd_all3]
    go_wp2_with (fail)
    refine (callX hX11 (known5_any w11 (hG0.below hX11.below))).mono ?_
    rintro e w12 ⟨rfl, hX12⟩
    go_wp2_with (fail)
    go_ret
    exact ⟨rfl, hL1.trans ((hW.mono (Nat.le_refl _)).trans (hX12.below.mono hW.size) |>.mono hL1.size)⟩
  have KEY := Lib.hid key
  clear key hK1
  go_wp2_with (fail)
  · exact KEY.out _ _ _ _ _ _ _ _ _ _ _ _ _ _ _ _ _ _ _ _ _ _ _ _ _ _ _ _ _ _ _ _ _ _ _ _ _ _ _ _ _ _ ⟨⟨#[116, 97, 115, 107]⟩, 5, 5, 0, 0, 0, [2, 1], 0, 0⟩ _ _ (Blk.new _ _ _) (hr0.alloc _) (by decide +kernel) (by unfold maxLen; decide) ((Below.refl _ _).alloc (Nat.le_refl _) _)
  · exact KEY.out _ _ _ _ _ _ _ _ _ _ _ _ _ _ _ _ _ _ _ _ _ _ _ _ _ _ _ _ _ _ _ _ _ _ _ _ _ _ _ _ _ _ ⟨str [97], 5, 5, 0, 0, 0, [], 0, 0⟩ _ _ (Blk.new _ _ _) ⟨none, 0, rfl, by simp, by unfold maxLen; omega, fun h => absurd rfl h⟩ (by decide +kernel) (by unfold maxLen; decide) ((Below.refl _ _).alloc (Nat.le_refl _) _)
  · exact KEY.out _ _ _ _ _ _ _ _ _ _ _ _ _ _ _ _ _ _ _ _ _ _ _ _ _ _ _ _ _ _ _ _ _ _ _ _ _ _ _ _ _ _ ⟨str [97], 5, 5, 0, 0, 0, [0, 1], 0, 0⟩ _ _ ((Blk.new _ _ _).alloc _) (ints_blk (xs := [0, 1]) (Blk.new_at _ _ _ (w1.heap.size + 1) (by simp)) (by unfold maxLen; decide)) (by decide +kernel) (by unfold maxLen; decide) (((Below.refl _ _).alloc (Nat.le_refl _) _).alloc (by simp) _)
  · exact KEY.out _ _ _ _ _ _ _ _ _ _ _ _ _ _ _ _ _ _ _ _ _ _ _ _ _ _ _ _ _ _ _ _ _ _ _ _ _ _ _ _ _ _ ⟨str [97], 5, 6, 0, 0, 0, [2, 1], 0, 0⟩ _ _ (Blk.new _ _ _) (hr0.alloc _) (by decide +kernel) (by unfold maxLen; decide) ((Below.refl _ _).alloc (Nat.le_refl _) _)
  · exact KEY.out _ _ _ _ _ _ _ _ _ _ _ _ _ _ _ _ _ _ _ _ _ _ _ _ _ _ _ _ _ _ _ _ _ _ _ _ _ _ _ _ _ _ ⟨str [97], 5, 5, 0, 1, 0, [2, 1], 0, 0⟩ _ _ (Blk.new _ _ _) (hr0.alloc _) (by decide +kernel) (by unfold maxLen; decide) ((Below.refl _ _).alloc (Nat.le_refl _) _)
  · exact KEY.out _ _ _ _ _ _ _ _ _ _ _ _ _ _ _ _ _ _ _ _ _ _ _ _ _ _ _ _ _ _ _ _ _ _ _ _ _ _ _ _ _ _ ⟨str [97], 5, 5, 0, 0, 1, [2, 1], 0, 0⟩ _ _ (Blk.new _ _ _) (hr0.alloc _) (by decide +kernel) (by unfold maxLen; decide) ((Below.refl _ _).alloc (Nat.le_refl _) _)
  · exact KEY.out _ _ _ _ _ _ _ _ _ _ _ _ _ _ _ _ _ _ _ _ _ _ _ _ _ _ _ _ _ _ _ _ _ _ _ _ _ _ _ _ _ _ ⟨str [97], 5, 5, 0, 0, 0, [2, 1], 0, 1⟩ _ _ (Blk.new _ _ _) (hr0.alloc _) (by decide +kernel) (by unfold maxLen; decide) ((Below.refl _ _).alloc (Nat.le_refl _) _)
  · exact KEY.out _ _ _ _ _ _ _ _ _ _ _ _ _ _ _ _ _ _ _ _ _ _ _ _ _ _ _ _ _ _ _ _ _ _ _ _ _ _ _ _ _ _ ⟨str [97], 5, 5, 3, 0, 0, [2, 1], 0, 0⟩ _ _ (Blk.new _ _ _) (hr0.alloc _) (by decide +kernel) (by unfold maxLen; decide) ((Below.refl _ _).alloc (Nat.le_refl _) _)
  · exact KEY.out _ _ _ _ _ _ _ _ _ _ _ _ _ _ _ _ _ _ _ _ _ _ _ _ _ _ _ _ _ _ _ _ _ _ _ _ _ _ _ _ _ _ ⟨str [97], 5, 5, 2, 0, 2, [2, 1], 0, 0⟩ _ _ (Blk.new _ _ _) (hr0.alloc _) (by decide +kernel) (by unfold maxLen; decide) ((Below.refl _ _).alloc (Nat.le_refl _) _)
  · exact KEY.out _ _ _ _ _ _ _ _ _ _ _ _ _ _ _ _ _ _ _ _ _ _ _ _ _ _ _ _ _ _ _ _ _ _ _ _ _ _ _ _ _ _ ⟨str [97], 10001, 5, 0, 0, 0, [2, 1], 0, 0⟩ _ _ (Blk.new _ _ _) (hr0.alloc _) (by decide +kernel) (by unfold maxLen; decide) ((Below.refl _ _).alloc (Nat.le_refl _) _)
  · exact KEY.out _ _ _ _ _ _ _ _ _ _ _ _ _ _ _ _ _ _ _ _ _ _ _ _ _ _ _ _ _ _ _ _ _ _ _ _ _ _ _ _ _ _ ⟨str [97], 9, 9, 0, 0, 0, [1, 1, 1, 1, 1, 1, 1, 1, 1], 0, 0⟩ _ _ ((Blk.new _ _ _).alloc _) (ints_blk (xs := [1, 1, 1, 1, 1, 1, 1, 1, 1]) (Blk.new_at _ _ _ (w1.heap.size + 1) (by simp)) (by unfold maxLen; decide)) (by decide +kernel) (by unfold maxLen; decide) (((Below.refl _ _).alloc (Nat.le_refl _) _).alloc (by simp) _)
  · go_ret
    exact ⟨rfl, hL1.trans (((Below.refl _ _).alloc (Nat.le_refl _) _).mono hL1.size)⟩
end Go.Proofs.YtakiicbcephbhaaDoor
