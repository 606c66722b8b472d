import Derived.Test.YtakiicbcephbhaaDoorProg
import Derived.Test.YtakiicbcephbhaaDoorBase
import Derived.Test.YtakiicbcephbhaaDoorLexM
import Derived.Test.YtakiicbcephbhaaDoorLexP
import Derived.Test.YtakiicbcephbhaaDoorLex1
import Derived.Test.YtakiicbcephbhaaDoorLex2
import Derived.Test.YtakiicbcephbhaaDoorLex3
import Derived.Test.YtakiicbcephbhaaDoorRef4
import Derived.Test.YtakiicbcephbhaaDoorRef4b
import Derived.Test.YtakiicbcephbhaaDoorLaw4a
import Derived.BigQuiet
import Derived.Deep.QuietTactic
import Derived.RegionCalls
import Derived.Deep.RegionWith
import Derived.Deep.RegionHeld3
import Derived.StillTailTactics
namespace Go.Proofs.YtakiicbcephbhaaDoor
open Go.RowKit
attribute [local go_sem] setCell_twice ByteArray.toList_eq str_list

def wd (k : Nat) : List UInt8 := wordsL.getD k []
theorem words_fact : ∀ k, k < 10 → tokensL (wd k) = ([⟨3, str (wd k), 0, 0⟩, ⟨4, str [], 0, (wd k).length⟩], (wd k).length, 0) := by decide +kernel
theorem wordsx_fact : ∀ k, k < 10 → tokensL (wd k ++ [120]) = ([⟨1, str (wd k ++ [120]), 0, 0⟩, ⟨4, str [], 0, (wd k).length + 1⟩], (wd k).length + 1, 0) := by decide +kernel
theorem wd_len : ∀ k, k < 10 → (wd k).length ≤ 9 := by decide +kernel
theorem word_tokens (s : ByteArray) (k : Nat) (hk : k < 10) (hs : s = str (wd k)) (w : World) (hG : GOK w) :
    Calls Tryd.prog 15 #[.string s] w fun e w' => ∃ b o c n, e = .returned (.tuple #[.slice (some ⟨b, o, none⟩) 2 c, .int .i64 n, .int .i64 0]) ∧ b < w'.heap.size ∧ w'.cell? ⟨b, o, none⟩ = some (.int .i64 3) ∧ w'.cell? ⟨b, o + 1, none⟩ = some (.string s) ∧ Below w.heap.size w w' := by
  subst hs
  have tk := tokens_any (str (wd k)) w (by rw [str_size]; have := wd_len k hk; unfold maxLen; omega) hG
  rw [str_list, words_fact k hk] at tk
  refine tk.mono ?_
  rintro e w1 ⟨v, rfl, ⟨A, c, rfl, _, _, h3⟩, hb⟩
  obtain ⟨b, o, rfl, hF, hx⟩ := h3 (by simp)
  have h0 := hx 0 (by simp)
  exact ⟨b, o, c, _, rfl, hF.2, by simpa using h0.1, by simpa using h0.2.1, hb⟩
theorem wordx_tokens (s : ByteArray) (k : Nat) (hk : k < 10) (hs : s = str (wd k ++ [120])) (w : World) (hG : GOK w) :
    Calls Tryd.prog 15 #[.string s] w fun e w' => ∃ b o c n, e = .returned (.tuple #[.slice (some ⟨b, o, none⟩) 2 c, .int .i64 n, .int .i64 0]) ∧ b < w'.heap.size ∧ w'.cell? ⟨b, o, none⟩ = some (.int .i64 1) ∧ Below w.heap.size w w' := by
  subst hs
  have tk := tokens_any (str (wd k ++ [120])) w (by rw [str_size, List.length_append]; have := wd_len k hk; simp; unfold maxLen; omega) hG
  rw [str_list, wordsx_fact k hk] at tk
  refine tk.mono ?_
  rintro e w1 ⟨v, rfl, ⟨A, c, rfl, _, _, h3⟩, hb⟩
  obtain ⟨b, o, rfl, hF, hx⟩ := h3 (by simp)
  have h0 := hx 0 (by simp)
  exact ⟨b, o, c, _, rfl, hF.2, by simpa using h0.1, hb⟩

set_option maxHeartbeats 1600000 in
set_option maxRecDepth 100000 in
theorem lexWords_walk (way : Int) (w : World) (hw : (Lit.int .i64 way).wf = true) (hG : GOK w) :
    Calls Tryd.prog 7 #[.int .i64 way] w fun e w' => e = .returned (.bool true) ∧ Below w.heap.size w w' := by
  by_cases hr : 0 ≤ way ∧ way < 10
  · obtain ⟨k, rfl⟩ := Int.eq_ofNat_of_zero_le hr.1
    have hk : k < 10 := by omega
    clear hr
    have hc0 : ∀ W : World, (W.alloc (.cells #[.string ⟨#[114, 101, 108, 111, 97, 100]⟩, .string ⟨#[116, 97, 115, 107]⟩, .string ⟨#[112, 101, 114, 105, 111, 100]⟩, .string ⟨#[100, 101, 97, 100, 108, 105, 110, 101]⟩, .string ⟨#[102, 105, 120, 101, 100]⟩, .string ⟨#[102, 108, 111, 97, 116]⟩, .string ⟨#[116, 104, 114, 101, 115, 104]⟩, .string ⟨#[114, 101, 103, 105, 111, 110, 115]⟩, .string ⟨#[101, 99, 98]⟩, .string ⟨#[117, 99, 98]⟩] 9)) = W.alloc (.cells wordsC 9) := fun _ => rfl
    go_enter Tryd.func7, Tryd.ntmps7
    have hwk := wordAt k hk
    generalize hx : str (wordsL.getD k []) = x at hwk
    have HX := Lib.hid hx; clear hx
    have hxs : x.size ≤ 9 := by rw [← HX.out, str_size]; exact wd_len k hk
    have cW : ∀ W : World, (W.alloc (.cells wordsC 9)).cell? ⟨W.heap.size, k, none⟩ = some (.string x) := fun W => by rw [(Blk.new _ _ _).cell, hwk]
    have CW := Lib.hid cW; clear cW hwk
    have hcw := CW.out w
    go_wp2_with (fail)
    refine (word_tokens _ k hk HX.out.symm _ (hG.below (by repeat (first | exact Below.refl _ _ | assumption | refine Below.drew ?_ | refine Below.alloc ?_ (by first | (simp; done) | (simp; omega) | omega) _ | refine Below.setCell ?_ (by first | (simp; done) | (simp; omega) | omega) _)))).mono ?_
    rintro e w1 ⟨b1, o1, c1, n1, rfl, hl1, y0, y1, hb1⟩
    have K1 : w1.cell? ⟨w.heap.size, k, none⟩ = some (.string x) := by rw [hb1.cell (p := ⟨w.heap.size, k, none⟩) (by simp)]; exact hcw
    have z1 : w.heap.size + 1 ≤ w1.heap.size := by have := hb1.size; simpa using this
    go_wp2_with (fail)
    refine (wordx_tokens _ k hk (by rw [← HX.out]; rfl) _ ((hG.below (by repeat (first | exact Below.refl _ _ | assumption | refine Below.drew ?_ | refine Below.alloc ?_ (by first | (simp; done) | (simp; omega) | omega) _ | refine Below.setCell ?_ (by first | (simp; done) | (simp; omega) | omega) _))).below hb1)).mono ?_
    rintro e w2 ⟨b2, o2, c2, n2, rfl, hl2, y2, hb2⟩
    have K2 : w2.cell? ⟨w.heap.size, k, none⟩ = some (.string x) := by rw [hb2.cell (p := ⟨w.heap.size, k, none⟩) (by simp; omega)]; exact K1
    have y0' : w2.cell? ⟨b1, o1, none⟩ = some (.int .i64 3) := by rw [hb2.cell (p := ⟨b1, o1, none⟩) hl1]; exact y0
    have y1' : w2.cell? ⟨b1, o1 + 1, none⟩ = some (.string x) := by rw [hb2.cell (p := ⟨b1, o1 + 1, none⟩) hl1]; exact y1
    have z2 := hb2.size
    have hbw : Below w.heap.size w w2 := (Below.trans (by repeat (first | exact Below.refl _ _ | assumption | refine Below.drew ?_ | refine Below.alloc ?_ (by first | (simp; done) | (simp; omega) | omega) _ | refine Below.setCell ?_ (by first | (simp; done) | (simp; omega) | omega) _)) (hb1.mono (by first | (simp; done) | (simp; omega) | omega))).trans (hb2.mono (by omega))
    have hG2 := hG.below hbw
    go_wp2_with (fail)
    refine (words_any _ hG2).mono ?_
    rintro e w3 ⟨rfl, rfl⟩
    have hk2 := CW.out w2
    have l1 : b1 < w2.heap.size := by omega
    clear y0 y1 K1 hl1 hcw hc0
    have hB : (x.data.toList == x.data.toList) = true := by simp
    go_wp2_with (fail)
    have hb3 : Below w.heap.size w (w2.alloc (.cells wordsC 9)) := hbw.alloc (by omega) _
    have f0 : (w2.alloc (.cells wordsC 9)).cell? ⟨b1, o1, none⟩ = some (.int .i64 3) := by rw [World.cell?_alloc_past _ _ _ l1]; exact y0'
    have f1 : (w2.alloc (.cells wordsC 9)).cell? ⟨b1, o1 + 1, none⟩ = some (.string x) := by rw [World.cell?_alloc_past _ _ _ l1]; exact y1'
    have f2 : (w2.alloc (.cells wordsC 9)).cell? ⟨b2, o2, none⟩ = some (.int .i64 1) := by rw [World.cell?_alloc_past _ _ _ hl2]; exact y2
    have f3 : (w2.alloc (.cells wordsC 9)).cell? ⟨w.heap.size, k, none⟩ = some (.string x) := by rw [World.cell?_alloc_past _ _ _ (by omega)]; exact K2
    clear y0' y1' y2 K2
    generalize w2.alloc (.cells wordsC 9) = W at hk2 hb3 f0 f1 f2 f3 ⊢
    go_still_tail 58, (by kernel_rfl)
    change wpList _ _ _ _ _ W.drew
    have hb5 : Below w.heap.size w W.drew := hb3.drew
    generalize W.drew = W2 at hb5 ⊢
    go_wp2_with (go_at_call 18; refine (known4_any _ (hG.below hb5)).mono ?_; rintro e w4 ⟨rfl, hb4⟩)
    go_ret
    exact ⟨rfl, hb5.trans (hb4.mono hb5.size)⟩
  · go_enter Tryd.func7, Tryd.ntmps7
    by_cases h0 : way < 0
    · go_wp2_with (fail)
      go_ret
      exact ⟨rfl, (by repeat (first | exact Below.refl _ _ | assumption | refine Below.drew ?_ | refine Below.alloc ?_ (by first | (simp; done) | (simp; omega) | omega) _ | refine Below.setCell ?_ (by first | (simp; done) | (simp; omega) | omega) _))⟩
    · have h1 : 10 ≤ way := by omega
      go_wp2_with (fail)
      go_ret
      exact ⟨rfl, (by repeat (first | exact Below.refl _ _ | assumption | refine Below.drew ?_ | refine Below.alloc ?_ (by first | (simp; done) | (simp; omega) | omega) _ | refine Below.setCell ?_ (by first | (simp; done) | (simp; omega) | omega) _))⟩
end Go.Proofs.YtakiicbcephbhaaDoor
