import Derived.Test.YtenamokjbbiecaaProg
import Derived.Test.YtenamokjbbiecaaBase
import Derived.Test.YtenamokjbbiecaaLexM
import Derived.Test.YtenamokjbbiecaaShelf
import Derived.Lib.Space
import Derived.Lib.Fields
import Derived.Lib.SlicesS
import Derived.BigQuiet
import Derived.Deep.QuietTactic
import Derived.Deep.RegionHeld3
import Derived.RegionCalls
namespace Go.Proofs.Ytenamokjbbiecaa
open Go.RowKit
set_option linter.unusedSimpArgs false

def runN (s : ByteArray) (p : Int → Bool) : Nat := runL p s.data.toList

theorem takeWhile_len_step (p : UInt8 → Bool) (l : List UInt8) (k : Nat) (h : k ≤ (l.takeWhile p).length) (hk : k < l.length) :
    (p l[k] = true → k + 1 ≤ (l.takeWhile p).length) ∧ (p l[k] = false → (l.takeWhile p).length = k) := by
  induction l generalizing k with
  | nil => simp at hk
  | cons a l ih =>
    by_cases ha : p a
    · simp only [List.takeWhile_cons, ha, if_true, List.length_cons] at h ⊢
      cases k with
      | zero => simp [ha]
      | succ k =>
        have := ih k (by omega) (by simpa using hk)
        simp only [List.getElem_cons_succ]
        constructor
        · intro h1; have := this.1 h1; omega
        · intro h1; have := this.2 h1; omega
    · simp only [List.takeWhile_cons, ha] at h ⊢
      have : k = 0 := by simpa using h
      subst this
      simp [ha]

theorem run_step (s : ByteArray) (p : Int → Bool) (k : Nat) (hk : k ≤ runN s p) (hlt : k < s.size) :
    (p (s[k].toNat : Int) = true → k + 1 ≤ runN s p) ∧ (p (s[k].toNat : Int) = false → runN s p = k) := by
  have h := takeWhile_len_step (fun b => p b.toNat) s.data.toList k hk (by simpa using hlt)
  have e : s.data.toList[k]'(by simpa using hlt) = s[k] := rfl
  rw [e] at h
  exact h
theorem runN_le (s : ByteArray) (p : Int → Bool) : runN s p ≤ s.size := by
  have := runL_le p s.data.toList
  rw [list_size] at this
  exact this

theorem List.getElem_zero_cons_tail {α : Type} : ∀ {l : List α} (h : 0 < l.length), l[0] :: l.tail = l
  | _ :: _, _ => rfl
theorem data_cons (s : ByteArray) (h : 0 < s.size) : s.data.toList = s[0] :: s.data.toList.tail := by
  have hl : 0 < s.data.toList.length := by rw [list_size]; exact h
  have e : s.data.toList[0] = s[0] := rfl
  rw [← e]
  exact (List.getElem_zero_cons_tail hl).symm
theorem gapL_at (s : ByteArray) (h : 0 < s.size) : gapL s.data.toList = if (s[0].toNat : Int) = 32 ∨ (s[0].toNat : Int) = 10 then 1 else if (s[0].toNat : Int) = 35 then runN s notFeedB else 0 := by
  have e := data_cons s h
  unfold runN
  generalize s.data.toList = l at *
  generalize s[0] = c at *
  rw [e]
  simp only [gapL]
  rw [← e]
  simp only [show ((c.toNat : Int) = 32) = (c.toNat = 32) by simp; omega, show ((c.toNat : Int) = 10) = (c.toNat = 10) by simp; omega, show ((c.toNat : Int) = 35) = (c.toNat = 35) by simp; omega]
/-- what the variables of the library hold -/
def GOK (w : World) : Prop := Lib.TabIs Try.prog w "strings.asciiSpace" .u8 Lib.asciiSpaceTab
def wordsT : List UInt8 := [114, 101, 108, 111, 97, 100, 32, 116, 97, 115, 107, 32, 112, 101, 114, 105, 111, 100, 32, 100, 101, 97, 100, 108, 105, 110, 101, 32, 102, 105, 120, 101, 100, 32, 102, 108, 111, 97, 116, 32, 116, 104, 114, 101, 115, 104, 32, 114, 101, 103, 105, 111, 110, 115, 32, 101, 99, 98, 32, 117, 99, 98]
theorem fields_words : Lib.fields wordsT = wordsL := by decide +kernel
def wordsC : Array Value := (wordsL.map fun l => Value.string ⟨l.toArray⟩).toArray
/-- the words' cells lie there -/
def WordsAt (w : World) (g : Nat) : Prop := ∀ o, o < 10 → w.cell? ⟨g, o, none⟩ = wordsC[o]?
theorem containsS_words (x : ByteArray) : Lib.containsS ((wordsL.map str).take 10) x = wordsL.contains x.data.toList := by
  rw [Bool.eq_iff_iff, Lib.containsS_iff, List.contains_iff_mem, List.take_of_length_le (by simp [wordsL])]
  constructor
  · intro h
    obtain ⟨l, hl, e⟩ := List.mem_map.1 h
    rw [← e]; exact hl
  · intro h; exact List.mem_map.2 ⟨_, h, rfl⟩
def nameKind (s : ByteArray) : Int := if wordsL.contains (s.extract 0 (runN s isMoreB)).data.toList then 3 else 1
def nameV (s : ByteArray) : Value := .tuple #[.agg #[.int .i64 (nameKind s), .string (s.extract 0 (runN s isMoreB)), .int .i64 0, .int .i64 0], .int .i64 (runN s isMoreB), .bool (decide ((runN s isMoreB : Int) ≤ 12))]
theorem tail_val (l : List UInt8) (c : UInt8) : valL (l ++ [c]) = valL l * 10 + ((c.toNat : Int) - 48) := by simp [valL]
theorem take_snoc {α : Type} (l : List α) (k : Nat) (h : k < l.length) : l.take (k + 1) = l.take k ++ [l[k]] := by
  rw [List.take_succ_eq_append_getElem h]
theorem val_bound (n : Nat) : ∀ (l : List UInt8), l.length = n → (∀ c ∈ l, isDigitB c.toNat = true) → 0 ≤ valL l ∧ valL l + 1 ≤ 10 ^ n := by
  induction n with
  | zero => intro l hl _; obtain rfl := List.length_eq_zero_iff.1 hl; simp [valL]
  | succ n ih =>
    intro l hl h
    have e := List.dropLast_concat_getLast (l := l) (by intro e; simp [e] at hl)
    rw [← e] at h ⊢
    generalize l.getLast _ = c at h ⊢
    have h1 := ih l.dropLast (by simp; omega) fun x hx => h x (by simp [hx])
    have h2 := h c (by simp)
    simp [isDigitB] at h2
    rw [tail_val, Int.pow_succ]
    omega

theorem run_digits (s : ByteArray) (k : Nat) (hk : k ≤ runN s isDigitB) : (∀ c ∈ s.data.toList.take k, isDigitB c.toNat = true) := by
  intro c hc
  have h1 : c ∈ s.data.toList.takeWhile (fun b => isDigitB b.toNat) := by
    have e : s.data.toList.take k = (s.data.toList.takeWhile (fun b => isDigitB b.toNat)).take k := by
      have hp := List.takeWhile_prefix (fun b : UInt8 => isDigitB b.toNat) (l := s.data.toList)
      obtain ⟨r, hr⟩ := hp
      conv => lhs; rw [← hr]
      rw [List.take_append_of_le_length hk]
    rw [e] at hc
    exact List.mem_of_mem_take hc
  exact List.all_takeWhile (p := fun b : UInt8 => isDigitB b.toNat) (l := s.data.toList) |> List.all_eq_true.1 |> fun h => h c h1
theorem digit_at (s : ByteArray) (k : Nat) (hk : k < runN s isDigitB) : 48 ≤ ((s.data.toList.getD k 0).toNat : Int) ∧ ((s.data.toList.getD k 0).toNat : Int) ≤ 57 := by
  have hl : k < s.data.toList.length := Nat.lt_of_lt_of_le hk (runL_le _ _)
  have h := run_digits s (k + 1) hk (s.data.toList.getD k 0) (by rw [take_snoc _ _ hl, getD_at hl]; simp)
  simp [isDigitB] at h ⊢
  omega
theorem val_step (s : ByteArray) (k : Nat) (hk : k < runN s isDigitB) : valL (s.data.toList.take (k + 1)) = valL (s.data.toList.take k) * 10 + (((s.data.toList.getD k 0).toNat : Int) - 48) := by
  have hl : k < s.data.toList.length := Nat.lt_of_lt_of_le hk (runL_le _ _)
  rw [take_snoc _ _ hl, tail_val, getD_at hl]
theorem val_nine (s : ByteArray) (k : Nat) (hk : k ≤ runN s isDigitB) (h9 : k ≤ 9) : 0 ≤ valL (s.data.toList.take k) ∧ valL (s.data.toList.take k) ≤ 999999999 := by
  have h := val_bound k (s.data.toList.take k) (by rw [List.length_take]; have := runL_le isDigitB s.data.toList; unfold runN at hk; omega) (run_digits s k hk)
  have : (10 : Int) ^ k ≤ 10 ^ 9 := by
    have := Nat.pow_le_pow_right (show 0 < 10 by omega) h9
    exact_mod_cast this
  omega

def numberOk (s : ByteArray) (h : 0 < s.size) : Prop := runN s isDigitB ≤ 9 ∧ (runN s isDigitB ≤ 1 ∨ (s[0].toNat : Int) ≠ 48)
end Go.Proofs.Ytenamokjbbiecaa
