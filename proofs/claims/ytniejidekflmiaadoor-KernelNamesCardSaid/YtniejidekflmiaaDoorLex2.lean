import Derived.Test.YtniejidekflmiaaDoorProg
import Derived.Test.YtniejidekflmiaaDoorBase
import Derived.Test.YtniejidekflmiaaDoorLexM
import Derived.Test.YtniejidekflmiaaDoorLex1
import Derived.Test.YtniejidekflmiaaDoorShelf
import Derived.BigQuiet
import Derived.Deep.QuietTactic
import Derived.RegionCalls
import Derived.Deep.RegionWith
namespace Go.Proofs.YtniejidekflmiaaDoor
open Go.RowKit
set_option linter.unusedSimpArgs false

def tokCells (t : Tok) : List Value := [.int .i64 t.kind, .string t.text, .int .i64 t.n, .int .i64 t.at_]
/-- what the function token answers -/
def TokPost : Option (Tok × Nat) → Ending → Prop
  | some (t, n), e => e = .returned (.tuple #[.agg #[.int .i64 t.kind, .string t.text, .int .i64 t.n, .int .i64 t.at_], .int .i64 n, .bool true])
  | none, e => ∃ (t : Tok) (n : Nat), e = .returned (.tuple #[.agg #[.int .i64 t.kind, .string t.text, .int .i64 t.n, .int .i64 t.at_], .int .i64 n, .bool false])

theorem tokenL_letter (s : ByteArray) (h : 0 < s.size) (hl : isLetterB s[0].toNat = true) :
    tokenL s.data.toList = if runN s isMoreB ≤ 12 then some (⟨if wordsL.contains (s.extract 0 (runN s isMoreB)).data.toList then 3 else 1, s.extract 0 (runN s isMoreB), 0, 0⟩, runN s isMoreB) else none := by
  have hx : s.extract 0 (runN s isMoreB) = ⟨(s.data.toList.take (runN s isMoreB)).toArray⟩ := ba_ext (by rw [extract_from])
  rw [extract_from, hx]
  unfold runN
  have e := data_cons s h
  unfold tokenL
  rw [e]
  simp only [hl, if_true]
theorem tokenL_digit (s : ByteArray) (h : 0 < s.size) (hl : isLetterB s[0].toNat = false) (hd : isDigitB s[0].toNat = true) :
    (numberOk s h → tokenL s.data.toList = some (⟨2, ⟨#[]⟩, valL (s.data.toList.take (runN s isDigitB)), 0⟩, runN s isDigitB)) ∧ (¬ numberOk s h → tokenL s.data.toList = none) := by
  unfold numberOk runN
  have e := data_cons s h
  have e2 : tokenL s.data.toList = if runL isDigitB s.data.toList ≤ 9 ∧ (runL isDigitB s.data.toList ≤ 1 ∨ s[0].toNat ≠ 48) then some (⟨2, ⟨#[]⟩, valL (s.data.toList.take (runL isDigitB s.data.toList)), 0⟩, runL isDigitB s.data.toList) else none := by
    unfold tokenL
    rw [e]
    simp only [hl, hd, if_true, Bool.false_eq_true, if_false]
  have hc : ((s[0].toNat : Int) ≠ 48) = (s[0].toNat ≠ 48) := by simp; omega
  rw [e2, hc]
  exact ⟨fun k => if_pos k, fun k => if_neg k⟩
theorem tokenL_other (s : ByteArray) (h : 0 < s.size) (hl : isLetterB s[0].toNat = false) (hd : isDigitB s[0].toNat = false) :
    tokenL s.data.toList = if Lib.hasPrefix s.data.toList [59] then some (⟨3, ⟨#[59]⟩, 0, 0⟩, 1) else none := by
  have e := data_cons s h
  unfold tokenL
  rw [e]
  have hc : Lib.hasPrefix (s[0] :: s.data.toList.tail) [59] = (s[0].toNat == 59) := by
    unfold Lib.hasPrefix
    rw [List.isPrefixOf_cons_cons]
    simp only [List.isPrefixOf, Bool.and_true]
    rw [Bool.eq_iff_iff, beq_iff_eq, beq_iff_eq, ← UInt8.toNat_inj, eq_comm]
    rfl
  rw [hc]
  simp only [hl, hd, Bool.false_eq_true, if_false, beq_iff_eq]

set_option maxHeartbeats 800000 in
theorem token_any (s : ByteArray) (h : 0 < s.size) (w : World) (hs : s.size ≤ maxLen) (hG : GOK w) :
    Calls Tryd.prog 90 #[.string s] w fun e w' => TokPost (tokenL s.data.toList) e ∧ Below w.heap.size w w' := by
  by_cases hl : isLetterB s[0].toNat = true
  · have e := Lib.hid (tokenL_letter s h hl)
    go_enter Tryd.func90, Tryd.ntmps90
    go_wp2_with (first | (go_at_call 93; refine (isLetter_any _ _).mono ?_; rintro e w' ⟨rfl, rfl⟩) | (go_at_call 94; refine (name_any _ _ hs ?_).mono ?_; exact hG.below (by repeat (first | exact Below.refl _ _ | assumption | refine Below.drew ?_ | refine Below.alloc ?_ (by first | (simp; done) | (simp; omega) | omega) _ | refine Below.setCell ?_ (by first | (simp; done) | (simp; omega) | omega) _)); rintro e w1 ⟨rfl, hb⟩; unfold nameV; have hB0 := (Blk.new _ _ _).below hb (by first | (simp; done) | (simp; omega) | omega); have cB0 := hB0.cell; have fB0 := hB0.free))
    refine bodyPost_ret (v := .tuple #[.agg #[.int .i64 (nameKind s), .string (s.extract 0 (runN s isMoreB)), .int .i64 0, .int .i64 0], .int .i64 (runN s isMoreB), .bool (decide ((runN s isMoreB : Int) ≤ 12))]) (by simp [results, Tryd.results90, go_sem, *]) rfl ⟨?_, ?_⟩
    · rw [e.out]
      split
      · rename_i h12
        rw [decide_eq_true (show ((runN s isMoreB : Int) ≤ 12) by omega)]
        exact rfl
      · rename_i h12
        rw [decide_eq_false (show ¬ ((runN s isMoreB : Int) ≤ 12) by omega)]
        exact ⟨⟨_, _, _, _⟩, _, rfl⟩
    · exact ((((Below.trans (by repeat (first | exact Below.refl _ _ | assumption | refine Below.drew ?_ | refine Below.alloc ?_ (by first | (simp; done) | (simp; omega) | omega) _ | refine Below.setCell ?_ (by first | (simp; done) | (simp; omega) | omega) _)) (hb.mono (by first | (simp; done) | (simp; omega) | omega))).setCell (by simp) _).setCell (by simp) _).setCell (by simp) _).setCell (by simp) _
  · have hl' : isLetterB s[0].toNat = false := by simpa using hl
    clear hl
    by_cases hd : isDigitB s[0].toNat = true
    · have e := tokenL_digit s h hl' hd
      by_cases hok : numberOk s h
      · have E := Lib.hid (e.1 hok)
        clear e
        go_enter Tryd.func90, Tryd.ntmps90
        go_wp2_with (first | (go_at_call 93; refine (isLetter_any _ _).mono ?_; rintro e w' ⟨rfl, rfl⟩) | (go_at_call 95; refine (isDigit_any _ _).mono ?_; rintro e w' ⟨rfl, rfl⟩) | (go_at_call 96; refine (number_ok _ h _ hs hok).mono ?_; rintro e w1 ⟨rfl, hb⟩; have hB0 := (Blk.new _ _ _).below hb (by first | (simp; done) | (simp; omega) | omega); have cB0 := hB0.cell; have fB0 := hB0.free))
        refine bodyPost_ret (v := .tuple #[.agg #[.int .i64 2, .string ⟨#[]⟩, .int .i64 (valL (s.data.toList.take (runN s isDigitB))), .int .i64 0], .int .i64 (runN s isDigitB), .bool true]) (by simp [results, Tryd.results90, go_sem, *]) rfl ⟨?_, ?_⟩
        · rw [E.out]
          exact rfl
        · exact ((((Below.trans (by repeat (first | exact Below.refl _ _ | assumption | refine Below.drew ?_ | refine Below.alloc ?_ (by first | (simp; done) | (simp; omega) | omega) _ | refine Below.setCell ?_ (by first | (simp; done) | (simp; omega) | omega) _)) (hb.mono (by first | (simp; done) | (simp; omega) | omega))).setCell (by simp) _).setCell (by simp) _).setCell (by simp) _).setCell (by simp) _
      · have E := Lib.hid (e.2 hok)
        clear e
        go_enter Tryd.func90, Tryd.ntmps90
        go_wp2_with (first | (go_at_call 93; refine (isLetter_any _ _).mono ?_; rintro e w' ⟨rfl, rfl⟩) | (go_at_call 95; refine (isDigit_any _ _).mono ?_; rintro e w' ⟨rfl, rfl⟩) | (go_at_call 96; refine (number_no _ h _ hs hok).mono ?_; rintro e w1 ⟨rfl, hb⟩; have hB0 := (Blk.new _ _ _).below hb (by first | (simp; done) | (simp; omega) | omega); have cB0 := hB0.cell; have fB0 := hB0.free))
        refine bodyPost_ret (v := .tuple #[.agg #[.int .i64 2, .string ⟨#[]⟩, .int .i64 0, .int .i64 0], .int .i64 (runN s isDigitB), .bool false]) (by simp [results, Tryd.results90, go_sem, *]) rfl ⟨?_, ?_⟩
        · rw [E.out]
          exact ⟨⟨_, _, _, _⟩, _, rfl⟩
        · exact ((((Below.trans (by repeat (first | exact Below.refl _ _ | assumption | refine Below.drew ?_ | refine Below.alloc ?_ (by first | (simp; done) | (simp; omega) | omega) _ | refine Below.setCell ?_ (by first | (simp; done) | (simp; omega) | omega) _)) (hb.mono (by first | (simp; done) | (simp; omega) | omega))).setCell (by simp) _).setCell (by simp) _).setCell (by simp) _).setCell (by simp) _
    · have hd' : isDigitB s[0].toNat = false := by simpa using hd
      clear hd
      have E := Lib.hid (tokenL_other s h hl' hd')
      go_enter Tryd.func90, Tryd.ntmps90
      go_wp2_with (first | (go_at_call 93; refine (isLetter_any _ _).mono ?_; rintro e w' ⟨rfl, rfl⟩) | (go_at_call 95; refine (isDigit_any _ _).mono ?_; rintro e w' ⟨rfl, rfl⟩) | (go_at_call 97; refine (Tryd.strings_HasPrefix _ _ _).mono ?_; rintro e w' ⟨rfl, rfl⟩))
      · have hp : Lib.hasPrefix s.data.toList [59] = true := by assumption
        refine bodyPost_ret (v := .tuple #[.agg #[.int .i64 3, .string ⟨#[59]⟩, .int .i64 0, .int .i64 0], .int .i64 1, .bool true]) (by simp [results, Tryd.results90, go_sem, *]) rfl ⟨?_, (by repeat (first | exact Below.refl _ _ | assumption | refine Below.drew ?_ | refine Below.alloc ?_ (by first | (simp; done) | (simp; omega) | omega) _ | refine Below.setCell ?_ (by first | (simp; done) | (simp; omega) | omega) _))⟩
        rw [E.out, hp]
        exact rfl
      · have hp : Lib.hasPrefix s.data.toList [59] = false := by assumption
        refine bodyPost_ret (v := .tuple #[.agg #[.int .i64 0, .string ⟨#[]⟩, .int .i64 0, .int .i64 0], .int .i64 0, .bool false]) (by simp [results, Tryd.results90, go_sem, *]) rfl ⟨?_, (by repeat (first | exact Below.refl _ _ | assumption | refine Below.drew ?_ | refine Below.alloc ?_ (by first | (simp; done) | (simp; omega) | omega) _ | refine Below.setCell ?_ (by first | (simp; done) | (simp; omega) | omega) _))⟩
        rw [E.out, hp]
        exact ⟨⟨_, _, _, _⟩, 0, rfl⟩
end Go.Proofs.YtniejidekflmiaaDoor
