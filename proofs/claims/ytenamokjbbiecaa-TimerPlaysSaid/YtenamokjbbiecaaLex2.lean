import Derived.Test.YtenamokjbbiecaaProg
import Derived.Test.YtenamokjbbiecaaBase
import Derived.Test.YtenamokjbbiecaaLexM
import Derived.Test.YtenamokjbbiecaaLex1
import Derived.Test.YtenamokjbbiecaaShelf
import Derived.BigQuiet
import Derived.Deep.QuietTactic
import Derived.RegionCalls
import Derived.Deep.RegionWith
namespace Go.Proofs.Ytenamokjbbiecaa
open Go.RowKit
set_option linter.unusedSimpArgs false

def tokCells (t : Tok) : List Value := [.int .i64 t.kind, .string t.text, .int .i64 t.n, .int .i64 t.at_]
/-- what the function token answers -/
def TokPost : Option (Tok × Nat) → Ending → Prop
  | some (t, n), e => e = .returned (.tuple #[.agg #[.int .i64 t.kind, .string t.text, .int .i64 t.n, .int .i64 t.at_], .int .i64 n, .bool true])
  | none, e => ∃ (t : Tok) (n : Nat), e = .returned (.tuple #[.agg #[.int .i64 t.kind, .string t.text, .int .i64 t.n, .int .i64 t.at_], .int .i64 n, .bool false])

theorem tokenL_letter (s : ByteArray) (h : 0 < s.size) (hl : isLetterB s[0].toNat = true) :
    tokenL s.data.toList = if runN s isMoreB ≤ 12 then some (⟨if wordsL.contains (s.extract 0 (runN s isMoreB)).data.toList then 3 else 1, s.extract 0 (runN s isMoreB), 0, 0⟩, runN s isMoreB) else none := by
  have hx : s.extract 0 (runN s isMoreB) = ⟨(s.data.toList.take (runN s isMoreB)).toArray⟩ := ba_ext (by rw [extract_from])
  rw [extract_from, hx]
  unfold runN
  have e := data_cons s h
  unfold tokenL
  rw [e]
  simp only [hl, if_true]
theorem tokenL_digit (s : ByteArray) (h : 0 < s.size) (hl : isLetterB s[0].toNat = false) (hd : isDigitB s[0].toNat = true) :
    (numberOk s h → tokenL s.data.toList = some (⟨2, ⟨#[]⟩, valL (s.data.toList.take (runN s isDigitB)), 0⟩, runN s isDigitB)) ∧ (¬ numberOk s h → tokenL s.data.toList = none) := by
  unfold numberOk runN
  have e := data_cons s h
  have e2 : tokenL s.data.toList = if runL isDigitB s.data.toList ≤ 9 ∧ (runL isDigitB s.data.toList ≤ 1 ∨ s[0].toNat ≠ 48) then some (⟨2, ⟨#[]⟩, valL (s.data.toList.take (runL isDigitB s.data.toList)), 0⟩, runL isDigitB s.data.toList) else none := by
    unfold tokenL
    rw [e]
    simp only [hl, hd, if_true, Bool.false_eq_true, if_false]
  have hc : ((s[0].toNat : Int) ≠ 48) = (s[0].toNat ≠ 48) := by simp; omega
  rw [e2, hc]
  exact ⟨fun k => if_pos k, fun k => if_neg k⟩
theorem tokenL_other (s : ByteArray) (h : 0 < s.size) (hl : isLetterB s[0].toNat = false) (hd : isDigitB s[0].toNat = false) :
    tokenL s.data.toList = if Lib.hasPrefix s.data.toList [59] then some (⟨3, ⟨#[59]⟩, 0, 0⟩, 1) else none := by
  have e := data_cons s h
  unfold tokenL
  rw [e]
  have hc : Lib.hasPrefix (s[0] :: s.data.toList.tail) [59] = (s[0].toNat == 59) := by
    unfold Lib.hasPrefix
    rw [List.isPrefixOf_cons_cons]
    simp only [List.isPrefixOf, Bool.and_true]
    rw [Bool.eq_iff_iff, beq_iff_eq, beq_iff_eq, ← UInt8.toNat_inj, eq_comm]
    rfl
  rw [hc]
  simp only [hl, hd, Bool.false_eq_true, if_false, beq_iff_eq]

end Go.Proofs.Ytenamokjbbiecaa
