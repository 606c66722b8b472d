import Derived.Test.YtakiicbcephbhaaDoorProg
import Derived.Test.YtakiicbcephbhaaDoorBase
import Derived.Test.YtakiicbcephbhaaDoorLexM
import Derived.Test.YtakiicbcephbhaaDoorLex1
import Derived.Test.YtakiicbcephbhaaDoorLex2
import Derived.Test.YtakiicbcephbhaaDoorLex3
import Derived.Test.YtakiicbcephbhaaDoorRef4
import Derived.Test.YtakiicbcephbhaaDoorRef4b
import Derived.BigQuiet
import Derived.Deep.QuietTactic
import Derived.RegionCalls
import Derived.Deep.RegionWith
namespace Go.Proofs.YtakiicbcephbhaaDoor
open Go.RowKit
attribute [local go_sem] setCell_twice ByteArray.toList_eq str_list

def knownL : List Tok := [⟨3, str [116, 97, 115, 107], 0, 0⟩, ⟨1, str [97], 0, 5⟩, ⟨3, str [59], 0, 6⟩, ⟨4, str [], 0, 7⟩]
theorem tokens_known : tokensL [116, 97, 115, 107, 32, 97, 59] = (knownL, 7, 0) := by decide +kernel

theorem knownL_len : knownL.length = 4 := rfl
attribute [local go_sem] knownL_len
set_option maxHeartbeats 1600000 in
set_option maxRecDepth 100000 in
theorem known4_any (w : World) (hG : GOK w) :
    Calls Tryd.prog 18 #[] w fun e w' => e = .returned (.bool true) ∧ Below w.heap.size w w' := by
  have tk := tokens_any (str [116, 97, 115, 107, 32, 97, 59]) w (by decide) hG
  rw [str_list, tokens_known] at tk
  have TK := Lib.hid tk; clear tk
  go_enter Tryd.func18, Tryd.ntmps18
  go_wp2_with (first | (go_at_call 15; refine TK.out.mono ?_; rintro e w1 ⟨v, rfl, ⟨A, c, rfl, h1, h2, h3⟩, hb⟩; obtain ⟨b, o, rfl, ⟨hF1, hF2⟩, hx⟩ := h3 (by decide); have y0 : w1.cell? ⟨b, o, none⟩ = some (.int .i64 3) := (hx 0 (by decide)).1; have y1 : w1.cell? ⟨b, o + 4 + 1, none⟩ = some (.string (str [97])) := (hx 1 (by decide)).2.1; have y2 : w1.cell? ⟨b, o + 8 + 1, none⟩ = some (.string (str [59])) := (hx 2 (by decide)).2.1; clear hx h3) | (go_at_call 19; refine (words_any _ (hG.below hb)).mono ?_; rintro e w2 ⟨rfl, rfl⟩; have y3 : (w1.alloc (.cells wordsC 9)).cell? ⟨w1.heap.size, 9, none⟩ = some (.string (str [117, 99, 98])) := by rw [(Blk.new _ _ _).cell]; rfl))
  go_ret
  exact ⟨rfl, hb.alloc hb.size _⟩

set_option maxHeartbeats 1600000 in
set_option maxRecDepth 100000 in
theorem lexTokens_walk (s : ByteArray) (w : World) (hs0 : s.size ≤ 140737488351232) (hG : GOK w) :
    Calls Tryd.prog 3 #[.string s] w fun e w' => e = .returned (.bool true) ∧ Below w.heap.size w w' := by
  have hs : s.size ≤ maxLen := by unfold maxLen; omega
  have t1 := fun (W : World) (h : GOK W) => tokens_any s W hs h
  have t2 := fun (W : World) => tokensR_any s W hs
  generalize tokensL s.data.toList = R at t1 t2
  obtain ⟨l, at_, err⟩ := R
  have T1 := Lib.hid t1; have T2 := Lib.hid t2; clear t1 t2
  unfold maxLen at hs
  go_enter Tryd.func3, Tryd.ntmps3
  go_wp2_with (first | (go_at_call 15; refine (T1.out _ hG).mono ?_; rintro e w1 ⟨v1, rfl, r1, hb1⟩) | (go_at_call 16; refine (T2.out _).mono ?_; rintro e w2 ⟨v2, rfl, r2, hb2⟩; have q1 := r1.to (TokR.below hb2)) | (go_at_call 17; refine (sameR_any _ _ _ _ _ _ true (decide_eq_true rfl) _ q1 r2).mono ?_; rintro e w3 ⟨rfl, hb3⟩) | (go_at_call 18; refine (known4_any _ ?_).mono ?_; exact ((hG.below hb1).below hb2).below hb3; rintro e w4 ⟨rfl, hb4⟩))
  · go_ret
    exact ⟨rfl, Below.refl _ _⟩
  · go_ret
    exact ⟨rfl, ((hb1.trans (hb2.mono hb1.size)).trans (hb3.mono (Nat.le_trans hb1.size hb2.size))).trans (hb4.mono (Nat.le_trans hb1.size (Nat.le_trans hb2.size hb3.size)))⟩
end Go.Proofs.YtakiicbcephbhaaDoor
