import Derived.Test.YtniejidekflmiaaGreatDoorProg
import Derived.Test.YtniejidekflmiaaGreatDoorBase
import Derived.Test.YtniejidekflmiaaGreatDoorLexM
import Derived.Test.YtniejidekflmiaaGreatDoorLex1
import Derived.Test.YtniejidekflmiaaGreatDoorRef4
import Derived.Test.YtniejidekflmiaaGreatDoorTskM
import Derived.BigQuiet
import Derived.Deep.QuietTactic
import Derived.RegionCalls
import Derived.Deep.RegionWith
namespace Go.Proofs.YtniejidekflmiaaGreatDoor
open Go.RowKit
set_option linter.unusedSimpArgs false
attribute [local go_sem] setCell_twice ByteArray.toList_eq str_list

set_option maxHeartbeats 1600000 in
set_option maxRecDepth 100000 in
theorem isName_any (s : ByteArray) (w : World) (hs : s.size ≤ maxLen) (hG : GOK w) :
    Calls Tryz.prog 102 #[.string s] w fun e w' => e = .returned (.bool (nameB s.data.toList)) ∧ Below w.heap.size w w' := by
  have tk := tokens_any s w hs hG
  have no := fun (ts : List Tok) (p : Nat) (e : Int) (h : tokensL s.data.toList = (ts, p, e)) => isName_not h
  have yes := fun (ts : List Tok) (p : Nat) (h : tokensL s.data.toList = (ts, p, 0)) => isName_spec h
  generalize tokensL s.data.toList = R at tk no yes
  obtain ⟨l, p, er⟩ := R
  have n1 := no l p er rfl
  have y1 : er = 0 → l.length = 2 → _ := fun h h2 => yes l p (by rw [h]) h2
  clear no yes
  generalize nameB s.data.toList = r at n1 y1
  have N1 := Lib.hid n1; clear n1
  have Y1 := Lib.hid y1; clear y1
  have TK := Lib.hid tk; clear tk
  go_enter Tryz.func102, Tryz.ntmps102
  go_wp2_with (fail)
  refine TK.out.mono ?_
  rintro e w1 ⟨v, rfl, ⟨A, c, rfl, h1, h2, h3⟩, hb⟩
  dsimp only at h1 h2 h3 hb ⊢
  unfold maxLen at h2
  by_cases he : er = 0
  · subst he
    by_cases hl : l.length = 2
    · obtain ⟨a, b, rfl, hr⟩ := Y1.out rfl hl
      obtain ⟨bk, o, rfl, _, hx⟩ := h3 (by simp)
      obtain ⟨c0, c1, _⟩ := hx 0 (by simp)
      simp only [Nat.zero_mul, Nat.add_zero, List.getElem_cons_zero] at c0 c1
      clear hx h3 Y1 N1 hl h1
      have HR := Lib.hid hr; clear hr
      cases hk : a.kind == 1 with
      | true =>
        cases ht : a.text.data.toList == s.data.toList with
        | true =>
          have E : true = r := by rw [HR.out]; simp at hk ht; simp [hk, ht]
          subst E
          go_wp2_with (fail)
          go_ret
          exact ⟨rfl, hb⟩
        | false =>
          have E : false = r := by rw [HR.out]; simp at ht; simp [ht]
          subst E
          go_wp2_with (fail)
          go_ret
          exact ⟨rfl, hb⟩
      | false =>
        have E : false = r := by rw [HR.out]; simp at hk; simp [hk]
        subst E
        go_wp2_with (fail)
        go_ret
        exact ⟨rfl, hb⟩
    · have E : false = r := by rw [N1.out (fun h => hl h.2)]
      subst E
      have hlb : ((l.length : Int) == 2) = false := by rw [beq_eq_false_iff_ne]; omega
      clear hl Y1 N1 h3
      go_wp2_with (fail)
      go_ret
      exact ⟨rfl, hb⟩
  · have E : false = r := by rw [N1.out (fun h => he h.1)]
    subst E
    have heb : (er == 0) = false := by rw [beq_eq_false_iff_ne]; exact he
    clear he Y1 N1 h3
    go_wp2_with (fail)
    go_ret
    exact ⟨rfl, hb⟩
set_option maxHeartbeats 1600000 in
set_option maxRecDepth 100000 in
theorem nameR_any (s : ByteArray) (w : World) (hs : s.size ≤ maxLen) :
    Calls Tryz.prog 49 #[.string s] w fun e w' => e = .returned (.bool (nameB s.data.toList)) ∧ Below w.heap.size w w' := by
  by_cases hz : s.size = 0
  · have hl : s.data.toList = [] := List.eq_nil_of_length_eq_zero (by rw [list_size]; exact hz)
    rw [hl]
    go_enter Tryz.func49, Tryz.ntmps49
    have hzb : ((s.size : Int) == 0) = true := by rw [beq_iff_eq]; omega
    go_wp2_with (fail)
    go_ret
    exact ⟨rfl, (by repeat (first | exact Below.refl _ _ | assumption | refine Below.drew ?_ | refine Below.alloc ?_ (by first | (simp; done) | (simp; omega) | omega) _ | refine Below.setCell ?_ (by first | (simp; done) | (simp; omega) | omega) _))⟩
  · have h0 : 0 < s.size := by omega
    have hzb : ((s.size : Int) == 0) = false := by rw [beq_eq_false_iff_ne]; omega
    have on := fun (W : World) => one_any s h0 W hs
    have hcons := data_cons s h0
    cases hl : isLetterB s[0].toNat with
    | false =>
      have E : nameB s.data.toList = false := by
        cases hn : nameB s.data.toList with
        | false => rfl
        | true =>
          rw [hcons] at hn
          rw [letter_name hn] at hl
          cases hl
      rw [E]
      clear hz E hcons on
      unfold maxLen at hs
      go_enter Tryz.func49, Tryz.ntmps49
      go_wp2_with (go_at_call 96; refine (smallR_any _ _).mono ?_; rintro e w' ⟨rfl, rfl⟩; rw [hl])
      go_ret
      exact ⟨rfl, (by repeat (first | exact Below.refl _ _ | assumption | refine Below.drew ?_ | refine Below.alloc ?_ (by first | (simp; done) | (simp; omega) | omega) _ | refine Below.setCell ?_ (by first | (simp; done) | (simp; omega) | omega) _))⟩
    | true =>
      clear hz hcons
      unfold nameB
      have hle : ∀ t n, tokenL s.data.toList = some (t, n) → n ≤ s.size := fun t n h => by have := (tokenL_some h).2; rwa [list_size] at this
      cases hx : tokenL s.data.toList with
      | none =>
        rw [hx] at on
        have ON := Lib.hid on; clear on
        clear hx hle
        unfold maxLen at hs
        go_enter Tryz.func49, Tryz.ntmps49
        have hzc : ((0 : Int) == (s.size : Int)) = false := by rw [beq_eq_false_iff_ne]; omega
        go_wp2_with (first | (go_at_call 96; refine (smallR_any _ _).mono ?_; rintro e w' ⟨rfl, rfl⟩; rw [hl]) | (go_at_call 97; refine (ON.out _).mono ?_; rintro e w1 ⟨rfl, hb⟩))
        go_ret
        exact ⟨rfl, hb.alloc hb.size _⟩
      | some x =>
        obtain ⟨t, n⟩ := x
        have hn := hle t n hx
        rw [hx] at on
        have ON := Lib.hid on; clear on
        clear hx hle
        unfold maxLen at hs
        rw [list_size]
        dsimp only
        cases hnb : ((n : Int) == (s.size : Int)) with
        | true =>
          have hd : decide (n = s.size) = true := by rw [beq_iff_eq] at hnb; simp; omega
          rw [hd]
          clear hd
          cases hk : t.kind == 1 with
          | true =>
            go_enter Tryz.func49, Tryz.ntmps49
            go_wp2_with (first | (go_at_call 96; refine (smallR_any _ _).mono ?_; rintro e w' ⟨rfl, rfl⟩; rw [hl]) | (go_at_call 97; refine (ON.out _).mono ?_; rintro e w1 ⟨rfl, hb⟩))
            go_ret
            exact ⟨rfl, hb.alloc hb.size _⟩
          | false =>
            go_enter Tryz.func49, Tryz.ntmps49
            go_wp2_with (first | (go_at_call 96; refine (smallR_any _ _).mono ?_; rintro e w' ⟨rfl, rfl⟩; rw [hl]) | (go_at_call 97; refine (ON.out _).mono ?_; rintro e w1 ⟨rfl, hb⟩))
            go_ret
            exact ⟨rfl, hb.alloc hb.size _⟩
        | false =>
          have hd : decide (n = s.size) = false := by rw [beq_eq_false_iff_ne] at hnb; simp; omega
          rw [hd]
          clear hd
          go_enter Tryz.func49, Tryz.ntmps49
          go_wp2_with (first | (go_at_call 96; refine (smallR_any _ _).mono ?_; rintro e w' ⟨rfl, rfl⟩; rw [hl]) | (go_at_call 97; refine (ON.out _).mono ?_; rintro e w1 ⟨rfl, hb⟩))
          go_ret
          exact ⟨rfl, hb.alloc hb.size _⟩
end Go.Proofs.YtniejidekflmiaaGreatDoor
