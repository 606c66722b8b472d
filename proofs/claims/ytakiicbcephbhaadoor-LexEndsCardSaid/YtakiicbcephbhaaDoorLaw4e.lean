import Derived.Test.YtakiicbcephbhaaDoorProg
import Derived.Test.YtakiicbcephbhaaDoorBase
import Derived.Test.YtakiicbcephbhaaDoorLexM
import Derived.Test.YtakiicbcephbhaaDoorLexP
import Derived.Test.YtakiicbcephbhaaDoorLex1
import Derived.Test.YtakiicbcephbhaaDoorLex2
import Derived.Test.YtakiicbcephbhaaDoorLex3
import Derived.Test.YtakiicbcephbhaaDoorRef4
import Derived.Test.YtakiicbcephbhaaDoorRef4b
import Derived.Test.YtakiicbcephbhaaDoorLaw4a
import Derived.BigQuiet
import Derived.Deep.QuietTactic
import Derived.RegionCalls
import Derived.Deep.RegionWith
namespace Go.Proofs.YtakiicbcephbhaaDoor
open Go.RowKit
attribute [local go_sem] setCell_twice ByteArray.toList_eq str_list

theorem ends_d : ∀ n, n < 31 → 1 ≤ n → ((tokensL (32 :: List.replicate n 55)).2.2 = 0 ↔ n ≤ 9) ∧ ((tokensL (32 :: List.replicate n 55)).2.2 = 0 ∨ ((tokensL (32 :: List.replicate n 55)).2.2 = 2 ∧ (tokensL (32 :: List.replicate n 55)).2.1 = 1)) := by decide +kernel
theorem ends_z : ∀ n, n < 31 → 1 ≤ n → ((tokensL (32 :: List.replicate n 122)).2.2 = 0 ↔ n ≤ 12) ∧ ((tokensL (32 :: List.replicate n 122)).2.2 = 0 ∨ ((tokensL (32 :: List.replicate n 122)).2.2 = 2 ∧ (tokensL (32 :: List.replicate n 122)).2.1 = 1)) := by decide +kernel
theorem rep_snoc (k : Nat) (c : UInt8) : str (List.replicate k c) ++ ⟨#[c]⟩ = str (List.replicate (k + 1) c) := by
  apply ba_ext
  rw [Joins.data_append, str_list, str_list, List.replicate_succ']
theorem sp_cons (l : List UInt8) : (⟨#[32]⟩ : ByteArray) ++ str l = str (32 :: l) := by
  apply ba_ext
  rw [Joins.data_append, str_list, str_list]
  rfl

set_option maxHeartbeats 1600000 in
set_option maxRecDepth 100000 in
theorem lexEnds_walk (n : Int) (d : Bool) (w : World) (hw : (Lit.int .i64 n).wf = true) (hG : GOK w) :
    Calls Tryd.prog 5 #[.int .i64 n, .bool d] w fun e w' => e = .returned (.bool true) ∧ Below w.heap.size w w' := by
  by_cases hr : 1 ≤ n ∧ n ≤ 30
  · obtain ⟨hr1, hr2⟩ := hr
    obtain ⟨k, rfl⟩ := Int.eq_ofNat_of_zero_le (show 0 ≤ n by omega)
    cases d with
    | true =>
      have f := ends_d k (by omega) (by omega)
      have tk := fun (W : World) (h : GOK W) => tokens_any (str (32 :: List.replicate k 55)) W (by rw [str_size]; simp; unfold maxLen; omega) h
      rw [str_list] at tk
      generalize tokensL (32 :: List.replicate k 55) = R at tk f
      obtain ⟨l, at_, e⟩ := R
      dsimp only at f
      have TK := Lib.hid tk; clear tk
      have HF := Lib.hid f; clear f
      go_enter Tryd.func5, Tryd.ntmps5
      go_wp2_with (fail)
      go_loop [5, 6, 7] (fun s m i => ∃ j : Nat, j ≤ k ∧ i = .int .i64 j ∧ s = .string (str (List.replicate j 55)) ∧ (m = .int .i64 9 ∨ (j = 0 ∧ m = .int .i64 12))) (fun _ _ i => k - (intOf i).toNat)
      case atStart => exact ⟨0, by omega, rfl, rfl, .inr ⟨rfl, rfl⟩⟩
      case round =>
        obtain ⟨j, hj, rfl, rfl, hm⟩ := hrel
        have HM := Lib.hid hm; clear hm
        have hrep := rep_snoc j 55
        have hsz : (str (List.replicate j 55)).size = j := by simp [str_size]
        by_cases hlt : j < k
        · go_wp2_with (fail)
          exact ⟨⟨j + 1, by omega, rfl, rfl, .inl rfl⟩, by simp [intOf]; omega⟩
        · obtain rfl : j = k := by omega
          rcases HM.out with rfl | ⟨h0, _⟩
          · go_wp2_with (fail)
            rw [sp_cons]
            refine (TK.out _ hG).mono ?_
            rintro e2 w1 ⟨v, rfl, _, hb⟩
            obtain ⟨hf1, hf2⟩ := HF.out
            rcases hf2 with rfl | ⟨rfl, rfl⟩
            · have h9 : (j : Int) ≤ 9 := by have := hf1.1 rfl; omega
              clear hf1
              go_wp2_with (go_at_call 18; refine (known4_any _ (hG.below hb)).mono ?_; rintro e w4 ⟨rfl, hb4⟩)
              go_ret
              exact ⟨rfl, hb.trans (hb4.mono hb.size)⟩
            · have h9 : decide ((j : Int) ≤ 9) = false := by
                have : ¬ j ≤ 9 := fun h => by have := hf1.2 h; omega
                simp; omega
              clear hf1
              go_wp2_with (go_at_call 18; refine (known4_any _ (hG.below hb)).mono ?_; rintro e w4 ⟨rfl, hb4⟩)
              go_ret
              exact ⟨rfl, hb.trans (hb4.mono hb.size)⟩
          · omega
    | false =>
      have f := ends_z k (by omega) (by omega)
      have tk := fun (W : World) (h : GOK W) => tokens_any (str (32 :: List.replicate k 122)) W (by rw [str_size]; simp; unfold maxLen; omega) h
      rw [str_list] at tk
      generalize tokensL (32 :: List.replicate k 122) = R at tk f
      obtain ⟨l, at_, e⟩ := R
      dsimp only at f
      have TK := Lib.hid tk; clear tk
      have HF := Lib.hid f; clear f
      go_enter Tryd.func5, Tryd.ntmps5
      go_wp2_with (fail)
      go_loop [5, 6, 7] (fun s m i => ∃ j : Nat, j ≤ k ∧ i = .int .i64 j ∧ s = .string (str (List.replicate j 122)) ∧ m = .int .i64 12) (fun _ _ i => k - (intOf i).toNat)
      case atStart => exact ⟨0, by omega, rfl, rfl, rfl⟩
      case round =>
        obtain ⟨j, hj, rfl, rfl, rfl⟩ := hrel
        have hrep := rep_snoc j 122
        have hsz : (str (List.replicate j 122)).size = j := by simp [str_size]
        by_cases hlt : j < k
        · go_wp2_with (fail)
          exact ⟨⟨j + 1, by omega, rfl, rfl, rfl⟩, by simp [intOf]; omega⟩
        · obtain rfl : j = k := by omega
          · go_wp2_with (fail)
            rw [sp_cons]
            refine (TK.out _ hG).mono ?_
            rintro e2 w1 ⟨v, rfl, _, hb⟩
            obtain ⟨hf1, hf2⟩ := HF.out
            rcases hf2 with rfl | ⟨rfl, rfl⟩
            · have h9 : (j : Int) ≤ 12 := by have := hf1.1 rfl; omega
              clear hf1
              go_wp2_with (go_at_call 18; refine (known4_any _ (hG.below hb)).mono ?_; rintro e w4 ⟨rfl, hb4⟩)
              go_ret
              exact ⟨rfl, hb.trans (hb4.mono hb.size)⟩
            · have h9 : decide ((j : Int) ≤ 12) = false := by
                have : ¬ j ≤ 12 := fun h => by have := hf1.2 h; omega
                simp; omega
              clear hf1
              go_wp2_with (go_at_call 18; refine (known4_any _ (hG.below hb)).mono ?_; rintro e w4 ⟨rfl, hb4⟩)
              go_ret
              exact ⟨rfl, hb.trans (hb4.mono hb.size)⟩
  · go_enter Tryd.func5, Tryd.ntmps5
    by_cases h0 : n < 1
    · go_wp2_with (fail)
      go_ret
      exact ⟨rfl, (by repeat (first | exact Below.refl _ _ | assumption | refine Below.drew ?_ | refine Below.alloc ?_ (by first | (simp; done) | (simp; omega) | omega) _ | refine Below.setCell ?_ (by first | (simp; done) | (simp; omega) | omega) _))⟩
    · have h1 : 30 < n := by omega
      go_wp2_with (fail)
      go_ret
      exact ⟨rfl, (by repeat (first | exact Below.refl _ _ | assumption | refine Below.drew ?_ | refine Below.alloc ?_ (by first | (simp; done) | (simp; omega) | omega) _ | refine Below.setCell ?_ (by first | (simp; done) | (simp; omega) | omega) _))⟩
end Go.Proofs.YtakiicbcephbhaaDoor
