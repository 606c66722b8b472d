import Derived.Test.YtenamokjbbiecaaProg
import Derived.Test.YtenamokjbbiecaaBase
import Derived.Test.YtenamokjbbiecaaLexM
import Derived.Test.YtenamokjbbiecaaLex1
import Derived.Test.YtenamokjbbiecaaLex2
import Derived.Test.YtenamokjbbiecaaLex3
import Derived.Test.YtenamokjbbiecaaRef4
import Derived.Test.YtenamokjbbiecaaTskM
import Derived.BigQuiet
import Derived.Deep.QuietTactic
import Derived.RegionCalls
import Derived.Deep.RegionWith
namespace Go.Proofs.Ytenamokjbbiecaa
open Go.RowKit
set_option linter.unusedSimpArgs false
attribute [local go_sem] setCell_twice ByteArray.toList_eq str_list

set_option maxHeartbeats 1600000 in
set_option maxRecDepth 100000 in
theorem nameR_any (s : ByteArray) (w : World) (hs : s.size ≤ maxLen) :
    Calls Try.prog 48 #[.string s] w fun e w' => e = .returned (.bool (nameB s.data.toList)) ∧ Below w.heap.size w w' := by
  by_cases hz : s.size = 0
  · have hl : s.data.toList = [] := List.eq_nil_of_length_eq_zero (by rw [list_size]; exact hz)
    rw [hl]
    go_enter Try.func48, Try.ntmps48
    have hzb : ((s.size : Int) == 0) = true := by rw [beq_iff_eq]; omega
    go_wp2_with (fail)
    go_ret
    exact ⟨rfl, (by repeat (first | exact Below.refl _ _ | assumption | refine Below.drew ?_ | refine Below.alloc ?_ (by first | (simp; done) | (simp; omega) | omega) _ | refine Below.setCell ?_ (by first | (simp; done) | (simp; omega) | omega) _))⟩
  · have h0 : 0 < s.size := by omega
    have hzb : ((s.size : Int) == 0) = false := by rw [beq_eq_false_iff_ne]; omega
    have on := fun (W : World) => one_any s h0 W hs
    have hcons := data_cons s h0
    cases hl : isLetterB s[0].toNat with
    | false =>
      have E : nameB s.data.toList = false := by
        cases hn : nameB s.data.toList with
        | false => rfl
        | true =>
          rw [hcons] at hn
          rw [letter_name hn] at hl
          cases hl
      rw [E]
      clear hz E hcons on
      unfold maxLen at hs
      go_enter Try.func48, Try.ntmps48
      go_wp2_with (go_at_call 67; refine (smallR_any _ _).mono ?_; rintro e w' ⟨rfl, rfl⟩; rw [hl])
      go_ret
      exact ⟨rfl, (by repeat (first | exact Below.refl _ _ | assumption | refine Below.drew ?_ | refine Below.alloc ?_ (by first | (simp; done) | (simp; omega) | omega) _ | refine Below.setCell ?_ (by first | (simp; done) | (simp; omega) | omega) _))⟩
    | true =>
      clear hz hcons
      unfold nameB
      have hle : ∀ t n, tokenL s.data.toList = some (t, n) → n ≤ s.size := fun t n h => by have := (tokenL_some h).2; rwa [list_size] at this
      cases hx : tokenL s.data.toList with
      | none =>
        rw [hx] at on
        have ON := Lib.hid on; clear on
        clear hx hle
        unfold maxLen at hs
        go_enter Try.func48, Try.ntmps48
        have hzc : ((0 : Int) == (s.size : Int)) = false := by rw [beq_eq_false_iff_ne]; omega
        go_wp2_with (first | (go_at_call 67; refine (smallR_any _ _).mono ?_; rintro e w' ⟨rfl, rfl⟩; rw [hl]) | (go_at_call 68; refine (ON.out _).mono ?_; rintro e w1 ⟨rfl, hb⟩))
        go_ret
        exact ⟨rfl, hb.alloc hb.size _⟩
      | some x =>
        obtain ⟨t, n⟩ := x
        have hn := hle t n hx
        rw [hx] at on
        have ON := Lib.hid on; clear on
        clear hx hle
        unfold maxLen at hs
        rw [list_size]
        dsimp only
        cases hnb : ((n : Int) == (s.size : Int)) with
        | true =>
          have hd : decide (n = s.size) = true := by rw [beq_iff_eq] at hnb; simp; omega
          rw [hd]
          clear hd
          cases hk : t.kind == 1 with
          | true =>
            go_enter Try.func48, Try.ntmps48
            go_wp2_with (first | (go_at_call 67; refine (smallR_any _ _).mono ?_; rintro e w' ⟨rfl, rfl⟩; rw [hl]) | (go_at_call 68; refine (ON.out _).mono ?_; rintro e w1 ⟨rfl, hb⟩))
            go_ret
            exact ⟨rfl, hb.alloc hb.size _⟩
          | false =>
            go_enter Try.func48, Try.ntmps48
            go_wp2_with (first | (go_at_call 67; refine (smallR_any _ _).mono ?_; rintro e w' ⟨rfl, rfl⟩; rw [hl]) | (go_at_call 68; refine (ON.out _).mono ?_; rintro e w1 ⟨rfl, hb⟩))
            go_ret
            exact ⟨rfl, hb.alloc hb.size _⟩
        | false =>
          have hd : decide (n = s.size) = false := by rw [beq_eq_false_iff_ne] at hnb; simp; omega
          rw [hd]
          clear hd
          go_enter Try.func48, Try.ntmps48
          go_wp2_with (first | (go_at_call 67; refine (smallR_any _ _).mono ?_; rintro e w' ⟨rfl, rfl⟩; rw [hl]) | (go_at_call 68; refine (ON.out _).mono ?_; rintro e w1 ⟨rfl, hb⟩))
          go_ret
          exact ⟨rfl, hb.alloc hb.size _⟩
end Go.Proofs.Ytenamokjbbiecaa
