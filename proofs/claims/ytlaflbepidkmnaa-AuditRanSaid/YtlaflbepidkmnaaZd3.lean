/- Lemmas: Plain: what lex.Tokens and the reference's Tokens compute, on lists of bytes, and that they are one; Lex1; Plain: names; what a task is; Ref4; Tsk2; Tsk3; Sets of tasks: how they read; Plain: the kernel, tick by tick. -/
import Derived.Test.YtlaflbepidkmnaaProg
import Derived.Test.YtlaflbepidkmnaaZd2
import Init
import Derived.Test.YtlaflbepidkmnaaShelf
import Derived.Lib.Space
import Derived.Lib.Fields
import Derived.Lib.SlicesS
import Derived.BigQuiet
import Derived.Deep.QuietTactic
import Derived.Deep.RegionHeld3
import Derived.RegionCalls
import Derived.Deep.RegionWith
import Derived.WalkKit
/- LexM -/
namespace Go.Proofs.Ytlaflbepidkmnaa

def isLetterB (c : Int) : Bool := decide (97 ≤ c) && decide (c ≤ 122)
def isDigitB (c : Int) : Bool := decide (48 ≤ c) && decide (c ≤ 57)
def isMoreB (c : Int) : Bool := isLetterB c || (isDigitB c || c == 95)
def notFeedB (c : Int) : Bool := c != 10

/-- how many bytes a text begins with that are such -/
def runL (p : Int → Bool) (l : List UInt8) : Nat := (l.takeWhile (fun b => p b.toNat)).length

/-- The words of the language. -/
def wordsL : List (List UInt8) := [[114, 101, 108, 111, 97, 100], [116, 97, 115, 107], [112, 101, 114, 105, 111, 100], [100, 101, 97, 100, 108, 105, 110, 101], [102, 105, 120, 101, 100], [102, 108, 111, 97, 116], [116, 104, 114, 101, 115, 104], [114, 101, 103, 105, 111, 110, 115], [101, 99, 98], [117, 99, 98]]

/-- how many bytes a text begins with that are between tokens -/
def gapL (l : List UInt8) : Nat :=
  match l with
  | [] => 0
  | c :: _ => if c.toNat = 32 ∨ c.toNat = 10 then 1 else if c.toNat = 35 then runL notFeedB l else 0

/-- the value of digits -/
def valL (l : List UInt8) : Int := l.foldl (fun v c => v * 10 + ((c.toNat : Int) - 48)) 0

structure Tok where
  kind : Int
  text : ByteArray
  n : Int
  at_ : Int
deriving DecidableEq

/-- the token that a text begins with (its place 0), and how many bytes; none: it errs -/
def tokenL (l : List UInt8) : Option (Tok × Nat) :=
  match l with
  | [] => none
  | c :: _ =>
    if isLetterB c.toNat then
      let n := runL isMoreB l
      if n ≤ 12 then some (⟨if wordsL.contains (l.take n) then 3 else 1, ⟨(l.take n).toArray⟩, 0, 0⟩, n) else none
    else if isDigitB c.toNat then
      let n := runL isDigitB l
      if n ≤ 9 ∧ (n ≤ 1 ∨ c.toNat ≠ 48) then some (⟨2, ⟨#[]⟩, valL (l.take n), 0⟩, n) else none
    else if c.toNat = 59 then some (⟨3, ⟨#[59]⟩, 0, 0⟩, 1)
    else none

/-- all tokens, or the first place that errs: place, error -/
def scan : Nat → Nat → List UInt8 → List Tok → List Tok × Nat × Int
  | 0, _, _, _ => ([], 0, 0)
  | _ + 1, at_, [], acc => (acc ++ [⟨4, ⟨#[]⟩, 0, at_⟩], at_, 0)
  | f + 1, at_, c :: l, acc =>
    if 0 < gapL (c :: l) then scan f (at_ + gapL (c :: l)) ((c :: l).drop (gapL (c :: l))) acc
    else match tokenL (c :: l) with
      | none => ([], at_, 2)
      | some (t, n) => scan f (at_ + n) ((c :: l).drop n) (acc ++ [{ t with at_ := at_ }])

def tokensL (l : List UInt8) : List Tok × Nat × Int := if l.length > 4000 then ([], 0, 3) else scan (l.length + 1) 0 l []

/-- the reference's way: byte by byte through notes -/
def scanR : Nat → Nat → Bool → List UInt8 → List Tok → List Tok × Nat × Int
  | 0, _, _, _, _ => ([], 0, 0)
  | _ + 1, at_, _, [], acc => (acc ++ [⟨4, ⟨#[]⟩, 0, at_⟩], at_, 0)
  | f + 1, at_, note, c :: l, acc =>
    if note = true ∨ c.toNat = 35 then scanR f (at_ + 1) (c.toNat != 10) l acc
    else if c.toNat = 32 ∨ c.toNat = 10 then scanR f (at_ + 1) false l acc
    else match tokenL (c :: l) with
      | none => ([], at_, 2)
      | some (t, n) => scanR f (at_ + n) false ((c :: l).drop n) (acc ++ [{ t with at_ := at_ }])

def tokensR (l : List UInt8) : List Tok × Nat × Int := if l.length > 4000 then ([], 0, 3) else scanR (l.length + 1) 0 false l []

theorem runL_le (p : Int → Bool) (l : List UInt8) : runL p l ≤ l.length := (List.takeWhile_sublist _).length_le
theorem runL_pos {p : Int → Bool} {c : UInt8} {l : List UInt8} (h : p c.toNat = true) : 1 ≤ runL p (c :: l) := by
  unfold runL
  rw [List.takeWhile_cons, if_pos h]
  simp

theorem tokenL_some {l : List UInt8} {t : Tok} {n : Nat} (h : tokenL l = some (t, n)) : 1 ≤ n ∧ n ≤ l.length := by
  unfold tokenL at h
  split at h
  · cases h
  · rename_i c l
    split at h
    · rename_i hl
      dsimp only at h
      split at h
      · simp only [Option.some.injEq, Prod.mk.injEq] at h
        have h1 : isMoreB c.toNat = true := by unfold isMoreB; rw [hl]; rfl
        have := runL_pos (l := l) h1
        have := runL_le isMoreB (c :: l)
        omega
      · cases h
    · split at h
      · rename_i hl hd
        dsimp only at h
        split at h
        · simp only [Option.some.injEq, Prod.mk.injEq] at h
          have := runL_pos (l := l) hd
          have := runL_le isDigitB (c :: l)
          omega
        · cases h
      · split at h
        · simp only [Option.some.injEq, Prod.mk.injEq] at h
          simp only [List.length_cons]
          omega
        · cases h

theorem gapL_le (l : List UInt8) : gapL l ≤ l.length := by
  unfold gapL
  split
  · simp
  · split
    · simp
    · split
      · exact runL_le _ _
      · omega

/-- through a note byte by byte -/
theorem scanR_note (l : List UInt8) : ∀ (f at_ : Nat) (acc : List Tok), l.length < f →
    ∃ f', (l.drop (runL notFeedB l)).length < f' ∧ scanR f at_ true l acc = scanR f' (at_ + runL notFeedB l) true (l.drop (runL notFeedB l)) acc := by
  induction l with
  | nil => intro f at_ acc hf; exact ⟨f, by simpa [runL] using hf, by simp [runL]⟩
  | cons c l ih =>
    intro f at_ acc hf
    obtain ⟨f, rfl⟩ : ∃ m, f = m + 1 := ⟨f - 1, by simp at hf; omega⟩
    by_cases hc : notFeedB c.toNat = true
    · have e1 : runL notFeedB (c :: l) = runL notFeedB l + 1 := by unfold runL; rw [List.takeWhile_cons, if_pos hc]; simp
      have hl : l.length < f := by simp at hf; omega
      have hnb : (c.toNat != 10) = true := by unfold notFeedB at hc; simp at hc ⊢; omega
      rw [e1, List.drop_succ_cons, scanR, if_pos (.inl rfl), hnb]
      obtain ⟨f', h1, h2⟩ := ih f (at_ + 1) acc hl
      exact ⟨f', h1, by rw [h2]; congr 1; omega⟩
    · have e1 : runL notFeedB (c :: l) = 0 := by unfold runL; rw [List.takeWhile_cons, if_neg hc]; simp
      rw [e1]
      exact ⟨f + 1, by simpa using hf, by simp⟩

theorem drop_run (p : Int → Bool) (l : List UInt8) : l.drop (runL p l) = [] ∨ ∃ c r, l.drop (runL p l) = c :: r ∧ p c.toNat = false := by
  induction l with
  | nil => left; simp
  | cons c l ih =>
    by_cases hc : p c.toNat = true
    · have e1 : runL p (c :: l) = runL p l + 1 := by unfold runL; rw [List.takeWhile_cons, if_pos hc]; simp
      rw [e1, List.drop_succ_cons]
      exact ih
    · have e1 : runL p (c :: l) = 0 := by unfold runL; rw [List.takeWhile_cons, if_neg hc]; simp
      right
      exact ⟨c, l, by rw [e1]; rfl, by simpa using hc⟩

theorem scanR_scan (m : Nat) : ∀ (l : List UInt8) (f f' at_ : Nat) (acc : List Tok), l.length ≤ m → l.length < f → l.length < f' →
    scanR f' at_ false l acc = scan f at_ l acc := by
  induction m with
  | zero =>
    intro l f f' at_ acc hm hf hf'
    obtain rfl : l = [] := List.length_eq_zero_iff.1 (by omega)
    obtain ⟨f, rfl⟩ : ∃ m, f = m + 1 := ⟨f - 1, by omega⟩
    obtain ⟨f', rfl⟩ : ∃ m, f' = m + 1 := ⟨f' - 1, by omega⟩
    rfl
  | succ m ih =>
    intro l f f' at_ acc hm hf hf'
    obtain ⟨f, rfl⟩ : ∃ m, f = m + 1 := ⟨f - 1, by omega⟩
    obtain ⟨f', rfl⟩ : ∃ m, f' = m + 1 := ⟨f' - 1, by omega⟩
    cases l with
    | nil => rfl
    | cons c l =>
      simp only [List.length_cons] at hm hf hf'
      by_cases h35 : c.toNat = 35
      · have hg : gapL (c :: l) = runL notFeedB (c :: l) := by simp [gapL, h35]
        have hnf : notFeedB c.toNat = true := by simp [notFeedB, h35]
        have e1 : runL notFeedB (c :: l) = runL notFeedB l + 1 := by unfold runL; rw [List.takeWhile_cons, if_pos hnf]; simp
        rw [scanR, if_pos (.inr h35), scan, if_pos (by rw [hg, e1]; omega), hg, e1, List.drop_succ_cons]
        rw [show (c.toNat != 10) = true by simp [h35]]
        obtain ⟨f2, h1, h2⟩ := scanR_note l f' (at_ + 1) acc (by omega)
        rw [h2, show at_ + (runL notFeedB l + 1) = at_ + 1 + runL notFeedB l by omega]
        rcases drop_run notFeedB l with hd | ⟨d, r, hd, hp⟩
        · rw [hd]
          obtain ⟨f2, rfl⟩ : ∃ m, f2 = m + 1 := ⟨f2 - 1, by omega⟩
          obtain ⟨f, rfl⟩ : ∃ m, f = m + 1 := ⟨f - 1, by omega⟩
          rfl
        · have hlen : (l.drop (runL notFeedB l)).length ≤ l.length := by simp
          rw [hd] at h1 hlen ⊢
          simp only [List.length_cons] at h1 hlen
          obtain ⟨f2, rfl⟩ : ∃ m, f2 = m + 1 := ⟨f2 - 1, by omega⟩
          obtain ⟨f, rfl⟩ : ∃ m, f = m + 1 := ⟨f - 1, by omega⟩
          have h10 : d.toNat = 10 := by simp [notFeedB] at hp; omega
          have hg2 : gapL (d :: r) = 1 := by simp [gapL, h10]
          rw [scanR, if_pos (.inl rfl), scan, hg2, if_pos (by omega), show (d.toNat != 10) = false by simp [h10]]
          exact ih r f f2 _ acc (by omega) (by omega) (by omega)
      · by_cases hsp : c.toNat = 32 ∨ c.toNat = 10
        · have hg : gapL (c :: l) = 1 := by simp [gapL, hsp]
          rw [scanR, if_neg (by simp [h35]), if_pos hsp, scan, hg, if_pos (by omega)]
          exact ih l f f' _ acc (by omega) (by omega) (by omega)
        · have hg : gapL (c :: l) = 0 := by simp [gapL, hsp, h35]
          rw [scanR, if_neg (by simp [h35]), if_neg hsp, scan, hg, if_neg (by omega)]
          cases htk : tokenL (c :: l) with
          | none => rfl
          | some x =>
            obtain ⟨t, n⟩ := x
            have hn := tokenL_some htk
            have hlen : ((c :: l).drop n).length ≤ l.length := by simp; omega
            exact ih _ f f' _ _ (by omega) (by omega) (by omega)

theorem tokensR_eq (l : List UInt8) : tokensR l = tokensL l := by
  unfold tokensR tokensL
  rw [scanR_scan l.length l (l.length + 1) (l.length + 1) 0 [] (Nat.le_refl _) (by omega) (by omega)]
end Go.Proofs.Ytlaflbepidkmnaa
/- Lex1 -/
namespace Go.Proofs.Ytlaflbepidkmnaa
open Go.RowKit
set_option linter.unusedSimpArgs false

def runN (s : ByteArray) (p : Int → Bool) : Nat := runL p s.data.toList

theorem takeWhile_len_step (p : UInt8 → Bool) (l : List UInt8) (k : Nat) (h : k ≤ (l.takeWhile p).length) (hk : k < l.length) :
    (p l[k] = true → k + 1 ≤ (l.takeWhile p).length) ∧ (p l[k] = false → (l.takeWhile p).length = k) := by
  induction l generalizing k with
  | nil => simp at hk
  | cons a l ih =>
    by_cases ha : p a
    · simp only [List.takeWhile_cons, ha, if_true, List.length_cons] at h ⊢
      cases k with
      | zero => simp [ha]
      | succ k =>
        have := ih k (by omega) (by simpa using hk)
        simp only [List.getElem_cons_succ]
        constructor
        · intro h1; have := this.1 h1; omega
        · intro h1; have := this.2 h1; omega
    · simp only [List.takeWhile_cons, ha] at h ⊢
      have : k = 0 := by simpa using h
      subst this
      simp [ha]

theorem run_step (s : ByteArray) (p : Int → Bool) (k : Nat) (hk : k ≤ runN s p) (hlt : k < s.size) :
    (p (s[k].toNat : Int) = true → k + 1 ≤ runN s p) ∧ (p (s[k].toNat : Int) = false → runN s p = k) := by
  have h := takeWhile_len_step (fun b => p b.toNat) s.data.toList k hk (by simpa using hlt)
  have e : s.data.toList[k]'(by simpa using hlt) = s[k] := rfl
  rw [e] at h
  exact h
theorem runN_le (s : ByteArray) (p : Int → Bool) : runN s p ≤ s.size := by
  have := runL_le p s.data.toList
  rw [list_size] at this
  exact this

theorem List.getElem_zero_cons_tail {α : Type} : ∀ {l : List α} (h : 0 < l.length), l[0] :: l.tail = l
  | _ :: _, _ => rfl
theorem data_cons (s : ByteArray) (h : 0 < s.size) : s.data.toList = s[0] :: s.data.toList.tail := by
  have hl : 0 < s.data.toList.length := by rw [list_size]; exact h
  have e : s.data.toList[0] = s[0] := rfl
  rw [← e]
  exact (List.getElem_zero_cons_tail hl).symm
theorem gapL_at (s : ByteArray) (h : 0 < s.size) : gapL s.data.toList = if (s[0].toNat : Int) = 32 ∨ (s[0].toNat : Int) = 10 then 1 else if (s[0].toNat : Int) = 35 then runN s notFeedB else 0 := by
  have e := data_cons s h
  unfold runN
  generalize s.data.toList = l at *
  generalize s[0] = c at *
  rw [e]
  simp only [gapL]
  rw [← e]
  simp only [show ((c.toNat : Int) = 32) = (c.toNat = 32) by simp; omega, show ((c.toNat : Int) = 10) = (c.toNat = 10) by simp; omega, show ((c.toNat : Int) = 35) = (c.toNat = 35) by simp; omega]
/-- what the variables of the library hold -/
def GOK (w : World) : Prop := Lib.TabIs Try.prog w "strings.asciiSpace" .u8 Lib.asciiSpaceTab
def wordsT : List UInt8 := [114, 101, 108, 111, 97, 100, 32, 116, 97, 115, 107, 32, 112, 101, 114, 105, 111, 100, 32, 100, 101, 97, 100, 108, 105, 110, 101, 32, 102, 105, 120, 101, 100, 32, 102, 108, 111, 97, 116, 32, 116, 104, 114, 101, 115, 104, 32, 114, 101, 103, 105, 111, 110, 115, 32, 101, 99, 98, 32, 117, 99, 98]
theorem fields_words : Lib.fields wordsT = wordsL := by decide +kernel
def wordsC : Array Value := (wordsL.map fun l => Value.string ⟨l.toArray⟩).toArray
/-- the words' cells lie there -/
def WordsAt (w : World) (g : Nat) : Prop := ∀ o, o < 10 → w.cell? ⟨g, o, none⟩ = wordsC[o]?
theorem containsS_words (x : ByteArray) : Lib.containsS ((wordsL.map str).take 10) x = wordsL.contains x.data.toList := by
  rw [Bool.eq_iff_iff, Lib.containsS_iff, List.contains_iff_mem, List.take_of_length_le (by simp [wordsL])]
  constructor
  · intro h
    obtain ⟨l, hl, e⟩ := List.mem_map.1 h
    rw [← e]; exact hl
  · intro h; exact List.mem_map.2 ⟨_, h, rfl⟩
def nameKind (s : ByteArray) : Int := if wordsL.contains (s.extract 0 (runN s isMoreB)).data.toList then 3 else 1
def nameV (s : ByteArray) : Value := .tuple #[.agg #[.int .i64 (nameKind s), .string (s.extract 0 (runN s isMoreB)), .int .i64 0, .int .i64 0], .int .i64 (runN s isMoreB), .bool (decide ((runN s isMoreB : Int) ≤ 12))]
theorem tail_val (l : List UInt8) (c : UInt8) : valL (l ++ [c]) = valL l * 10 + ((c.toNat : Int) - 48) := by simp [valL]
theorem take_snoc {α : Type} (l : List α) (k : Nat) (h : k < l.length) : l.take (k + 1) = l.take k ++ [l[k]] := by
  rw [List.take_succ_eq_append_getElem h]
theorem val_bound (n : Nat) : ∀ (l : List UInt8), l.length = n → (∀ c ∈ l, isDigitB c.toNat = true) → 0 ≤ valL l ∧ valL l + 1 ≤ 10 ^ n := by
  induction n with
  | zero => intro l hl _; obtain rfl := List.length_eq_zero_iff.1 hl; simp [valL]
  | succ n ih =>
    intro l hl h
    have e := List.dropLast_concat_getLast (l := l) (by intro e; simp [e] at hl)
    rw [← e] at h ⊢
    generalize l.getLast _ = c at h ⊢
    have h1 := ih l.dropLast (by simp; omega) fun x hx => h x (by simp [hx])
    have h2 := h c (by simp)
    simp [isDigitB] at h2
    rw [tail_val, Int.pow_succ]
    omega

theorem run_digits (s : ByteArray) (k : Nat) (hk : k ≤ runN s isDigitB) : (∀ c ∈ s.data.toList.take k, isDigitB c.toNat = true) := by
  intro c hc
  have h1 : c ∈ s.data.toList.takeWhile (fun b => isDigitB b.toNat) := by
    have e : s.data.toList.take k = (s.data.toList.takeWhile (fun b => isDigitB b.toNat)).take k := by
      have hp := List.takeWhile_prefix (fun b : UInt8 => isDigitB b.toNat) (l := s.data.toList)
      obtain ⟨r, hr⟩ := hp
      conv => lhs; rw [← hr]
      rw [List.take_append_of_le_length hk]
    rw [e] at hc
    exact List.mem_of_mem_take hc
  exact List.all_takeWhile (p := fun b : UInt8 => isDigitB b.toNat) (l := s.data.toList) |> List.all_eq_true.1 |> fun h => h c h1
theorem digit_at (s : ByteArray) (k : Nat) (hk : k < runN s isDigitB) : 48 ≤ ((s.data.toList.getD k 0).toNat : Int) ∧ ((s.data.toList.getD k 0).toNat : Int) ≤ 57 := by
  have hl : k < s.data.toList.length := Nat.lt_of_lt_of_le hk (runL_le _ _)
  have h := run_digits s (k + 1) hk (s.data.toList.getD k 0) (by rw [take_snoc _ _ hl, getD_at hl]; simp)
  simp [isDigitB] at h ⊢
  omega
theorem val_step (s : ByteArray) (k : Nat) (hk : k < runN s isDigitB) : valL (s.data.toList.take (k + 1)) = valL (s.data.toList.take k) * 10 + (((s.data.toList.getD k 0).toNat : Int) - 48) := by
  have hl : k < s.data.toList.length := Nat.lt_of_lt_of_le hk (runL_le _ _)
  rw [take_snoc _ _ hl, tail_val, getD_at hl]
theorem val_nine (s : ByteArray) (k : Nat) (hk : k ≤ runN s isDigitB) (h9 : k ≤ 9) : 0 ≤ valL (s.data.toList.take k) ∧ valL (s.data.toList.take k) ≤ 999999999 := by
  have h := val_bound k (s.data.toList.take k) (by rw [List.length_take]; have := runL_le isDigitB s.data.toList; unfold runN at hk; omega) (run_digits s k hk)
  have : (10 : Int) ^ k ≤ 10 ^ 9 := by
    have := Nat.pow_le_pow_right (show 0 < 10 by omega) h9
    exact_mod_cast this
  omega

def numberOk (s : ByteArray) (h : 0 < s.size) : Prop := runN s isDigitB ≤ 9 ∧ (runN s isDigitB ≤ 1 ∨ (s[0].toNat : Int) ≠ 48)
end Go.Proofs.Ytlaflbepidkmnaa
namespace Go.Proofs.Ytlaflbepidkmnaa
open Go.RowKit
set_option linter.unusedSimpArgs false

def tokCells (t : Tok) : List Value := [.int .i64 t.kind, .string t.text, .int .i64 t.n, .int .i64 t.at_]
/-- what the function token answers -/
def TokPost : Option (Tok × Nat) → Ending → Prop
  | some (t, n), e => e = .returned (.tuple #[.agg #[.int .i64 t.kind, .string t.text, .int .i64 t.n, .int .i64 t.at_], .int .i64 n, .bool true])
  | none, e => ∃ (t : Tok) (n : Nat), e = .returned (.tuple #[.agg #[.int .i64 t.kind, .string t.text, .int .i64 t.n, .int .i64 t.at_], .int .i64 n, .bool false])

theorem tokenL_letter (s : ByteArray) (h : 0 < s.size) (hl : isLetterB s[0].toNat = true) :
    tokenL s.data.toList = if runN s isMoreB ≤ 12 then some (⟨if wordsL.contains (s.extract 0 (runN s isMoreB)).data.toList then 3 else 1, s.extract 0 (runN s isMoreB), 0, 0⟩, runN s isMoreB) else none := by
  have hx : s.extract 0 (runN s isMoreB) = ⟨(s.data.toList.take (runN s isMoreB)).toArray⟩ := ba_ext (by rw [extract_from])
  rw [extract_from, hx]
  unfold runN
  have e := data_cons s h
  unfold tokenL
  rw [e]
  simp only [hl, if_true]
theorem tokenL_digit (s : ByteArray) (h : 0 < s.size) (hl : isLetterB s[0].toNat = false) (hd : isDigitB s[0].toNat = true) :
    (numberOk s h → tokenL s.data.toList = some (⟨2, ⟨#[]⟩, valL (s.data.toList.take (runN s isDigitB)), 0⟩, runN s isDigitB)) ∧ (¬ numberOk s h → tokenL s.data.toList = none) := by
  unfold numberOk runN
  have e := data_cons s h
  have e2 : tokenL s.data.toList = if runL isDigitB s.data.toList ≤ 9 ∧ (runL isDigitB s.data.toList ≤ 1 ∨ s[0].toNat ≠ 48) then some (⟨2, ⟨#[]⟩, valL (s.data.toList.take (runL isDigitB s.data.toList)), 0⟩, runL isDigitB s.data.toList) else none := by
    unfold tokenL
    rw [e]
    simp only [hl, hd, if_true, Bool.false_eq_true, if_false]
  have hc : ((s[0].toNat : Int) ≠ 48) = (s[0].toNat ≠ 48) := by simp; omega
  rw [e2, hc]
  exact ⟨fun k => if_pos k, fun k => if_neg k⟩
theorem tokenL_other (s : ByteArray) (h : 0 < s.size) (hl : isLetterB s[0].toNat = false) (hd : isDigitB s[0].toNat = false) :
    tokenL s.data.toList = if Lib.hasPrefix s.data.toList [59] then some (⟨3, ⟨#[59]⟩, 0, 0⟩, 1) else none := by
  have e := data_cons s h
  unfold tokenL
  rw [e]
  have hc : Lib.hasPrefix (s[0] :: s.data.toList.tail) [59] = (s[0].toNat == 59) := by
    unfold Lib.hasPrefix
    rw [List.isPrefixOf_cons_cons]
    simp only [List.isPrefixOf, Bool.and_true]
    rw [Bool.eq_iff_iff, beq_iff_eq, beq_iff_eq, ← UInt8.toNat_inj, eq_comm]
    rfl
  rw [hc]
  simp only [hl, hd, Bool.false_eq_true, if_false, beq_iff_eq]

end Go.Proofs.Ytlaflbepidkmnaa
namespace Go.Proofs.Ytlaflbepidkmnaa
open Go.RowKit
set_option linter.unusedSimpArgs false
attribute [local go_sem] setCell_twice

def TokR : World → Nat → Nat → Tok → Prop := fun w b o t => w.cell? ⟨b, o, none⟩ = some (.int .i64 t.kind) ∧ w.cell? ⟨b, o + 1, none⟩ = some (.string t.text) ∧ w.cell? ⟨b, o + 2, none⟩ = some (.int .i64 t.n) ∧ w.cell? ⟨b, o + 3, none⟩ = some (.int .i64 t.at_)

theorem info_Tok : (Try.prog.info? 107).map (fun i => (i.zero, i.size, i.bytes)) = some (some (.agg #[.int .i64 0, .string ⟨#[]⟩, .int .i64 0, .int .i64 0]), 4, 40) := by kernel_rfl
theorem tokR_of (w : World) (b o : Nat) (x : Tok) (h : ∀ j u, (tokCells x)[j]? = some u → w.cell? ⟨b, o + j, none⟩ = some u) : TokR w b o x :=
  ⟨h 0 _ rfl, h 1 _ rfl, h 2 _ rfl, h 3 _ rfl⟩
/-- the frame at the label: what is gathered, the place -/
def LexJ (s : ByteArray) (w : World) (R : List Tok × Nat × Int) (a : Act) (w' : World) : Prop :=
  ∃ (v : Value) (acc : List Tok) (at_ f : Nat) (u6 u7 u8 u9 u10 u11 u12 u13 u14 u15 u16 u17 u18 u19 u20 u21 u22 u23 u24 u25 u26 u27 u28 u29 u30 u31 u32 u33 u34 u35 u36 u37 u38 u39 u40 u41 u42 u43 u44 u45 u46 u47 u48 u49 : Value) (c0 c1 c2 c3 : Value),
    a = { tmps := #[.string s, undef, v, .int .i64 at_, .int .i64 0, .pointer (some ⟨w.heap.size, 0, none⟩), u6, u7, u8, u9, u10, u11, u12, u13, u14, u15, u16, u17, u18, u19, u20, u21, u22, u23, u24, u25, u26, u27, u28, u29, u30, u31, u32, u33, u34, u35, u36, u37, u38, u39, u40, u41, u42, u43, u44, u45, u46, u47, u48, u49], defers := [] } ∧
    at_ ≤ s.size ∧ acc.length ≤ at_ ∧ s.size < at_ + f ∧ scan f at_ (s.data.toList.drop at_) acc = R ∧ Below w.heap.size w w' ∧ w.heap.size < w'.heap.size ∧ Blk w' w.heap.size #[c0, c1, c2, c3] 107 ∧
    OwnL tokCells w' (w.heap.size + 1) 107 4 v acc

def TokensPost (w : World) : List Tok × Nat × Int → Ending → World → Prop := fun R e w' =>
  ∃ v, e = .returned (.tuple #[v, .int .i64 R.2.1, .int .i64 R.2.2]) ∧ SlR TokR 4 (fun b => w.heap.size ≤ b ∧ b < w'.heap.size) w' v R.1 ∧ Below w.heap.size w w'

end Go.Proofs.Ytlaflbepidkmnaa
/- TskM -/
namespace Go.Proofs.Ytlaflbepidkmnaa

def nameB (l : List UInt8) : Bool := match tokenL l with
  | some (t, n) => decide (n = l.length) && (t.kind == 1)
  | none => false

theorem take_run (p : Int → Bool) (l : List UInt8) : l.take (runL p l) = l.takeWhile (fun b => p b.toNat) := by
  unfold runL
  exact (List.prefix_iff_eq_take.1 (List.takeWhile_prefix _)).symm
theorem run_take (p : Int → Bool) (l : List UInt8) : runL p (l.take (runL p l)) = runL p l := by
  rw [take_run]
  unfold runL
  induction l with
  | nil => rfl
  | cons c l ih =>
    rw [List.takeWhile_cons]
    split
    · rw [List.takeWhile_cons]
      simp_all
    · rfl
/-- what a name's token says is a name -/
theorem token_name {l : List UInt8} {t : Tok} {n : Nat} (h : tokenL l = some (t, n)) (hk : t.kind = 1) : nameB t.text.data.toList = true ∧ t.text = ⟨(l.take n).toArray⟩ ∧ t.n = 0 ∧ t.at_ = 0 := by
  cases l with
  | nil => simp [tokenL] at h
  | cons c l =>
    by_cases hl : isLetterB c.toNat = true
    · have hr := run_take isMoreB (c :: l)
      have hpos : 1 ≤ runL isMoreB (c :: l) := runL_pos (by simp [isMoreB, hl])
      have hle := runL_le isMoreB (c :: l)
      simp only [tokenL, hl, if_true] at h
      generalize hn : runL isMoreB (c :: l) = m at h hr hpos hle
      by_cases h12 : m ≤ 12
      · rw [if_pos h12] at h
        obtain ⟨rfl, rfl⟩ := Prod.mk.inj (Option.some.inj h)
        refine ⟨?_, rfl, rfl, rfl⟩
        dsimp only at hk ⊢
        obtain ⟨k, rfl⟩ : ∃ k, m = k + 1 := ⟨m - 1, by omega⟩
        have hw : wordsL.contains ((c :: l).take (k + 1)) = false := by
          cases hw : wordsL.contains ((c :: l).take (k + 1)) with
          | false => rfl
          | true => rw [hw] at hk; simp at hk
        have hlen : ((c :: l).take (k + 1)).length = k + 1 := by rw [List.length_take]; omega
        rw [List.take_succ_cons] at hr hw hlen ⊢
        unfold nameB
        simp only [tokenL, hl, if_true, hr, if_pos h12]
        have ht : (c :: l.take k).take (k + 1) = c :: l.take k := List.take_of_length_le (by omega)
        rw [ht, hw]
        simp only [hlen]
        simp
      · rw [if_neg h12] at h
        simp at h
    · exfalso
      simp only [tokenL, Bool.not_eq_true] at h hl
      simp only [hl] at h
      revert h
      split
      · intro h; contradiction
      · split
        · split
          · intro h
            obtain ⟨rfl, rfl⟩ := Prod.mk.inj (Option.some.inj h)
            simp at hk
          · intro h; simp at h
        · split
          · intro h
            obtain ⟨rfl, rfl⟩ := Prod.mk.inj (Option.some.inj h)
            simp at hk
          · intro h; simp at h
theorem scan_names (f : Nat) : ∀ (at_ : Nat) (l : List UInt8) (acc : List Tok), (∀ t ∈ acc, t.kind = 1 → nameB t.text.data.toList = true) → ∀ t ∈ (scan f at_ l acc).1, t.kind = 1 → nameB t.text.data.toList = true := by
  induction f with
  | zero => intro at_ l acc hacc t ht; simp [scan] at ht
  | succ f ih =>
    intro at_ l acc hacc t ht hk
    cases l with
    | nil =>
      simp only [scan, List.mem_append, List.mem_singleton] at ht
      rcases ht with ht | rfl
      · exact hacc t ht hk
      · simp at hk
    | cons c l =>
      by_cases hg : 0 < gapL (c :: l)
      · rw [scan, if_pos hg] at ht
        exact ih _ _ _ hacc t ht hk
      · cases hx : tokenL (c :: l) with
        | none => rw [scan, if_neg hg, hx] at ht; simp at ht
        | some x =>
          obtain ⟨u, n⟩ := x
          rw [scan, if_neg hg, hx] at ht
          refine ih _ _ _ (fun v hv hvk => ?_) t ht hk
          rw [List.mem_append, List.mem_singleton] at hv
          rcases hv with hv | rfl
          · exact hacc v hv hvk
          · exact (token_name hx hvk).1
theorem name_of_tokens {l : List UInt8} {ts : List Tok} {p : Nat} (h : tokensL l = (ts, p, 0)) (t : Tok) (ht : t ∈ ts) (hk : t.kind = 1) : nameB t.text.data.toList = true := by
  unfold tokensL at h
  by_cases hl : l.length > 4000
  · rw [if_pos hl] at h; simp at h
  · rw [if_neg hl] at h
    refine scan_names (l.length + 1) 0 l [] (by simp) t ?_ hk
    rw [h]
    exact ht
theorem letter_name {c : UInt8} {l : List UInt8} (h : nameB (c :: l) = true) : isLetterB c.toNat = true := by
  cases hl : isLetterB c.toNat with
  | true => rfl
  | false =>
    exfalso
    unfold nameB at h
    cases hx : tokenL (c :: l) with
    | none => rw [hx] at h; simp at h
    | some x =>
      obtain ⟨t, n⟩ := x
      rw [hx] at h
      simp only [Bool.and_eq_true, beq_iff_eq] at h
      have hk := h.2
      simp only [tokenL, hl, Bool.false_eq_true, if_false] at hx
      split at hx
      · split at hx
        · simp only [Option.some.injEq, Prod.mk.injEq] at hx
          obtain ⟨rfl, _⟩ := hx
          simp at hk
        · cases hx
      · split at hx
        · simp only [Option.some.injEq, Prod.mk.injEq] at hx
          obtain ⟨rfl, _⟩ := hx
          simp at hk
        · cases hx
theorem tokens_of_name {l : List UInt8} (h : nameB l = true) : tokensL l = ([⟨1, ⟨l.toArray⟩, 0, 0⟩, ⟨4, ⟨#[]⟩, 0, l.length⟩], l.length, 0) := by
  cases l with
  | nil => simp [nameB, tokenL] at h
  | cons c l =>
    have hl := letter_name h
    have hg : gapL (c :: l) = 0 := by
      have : c.toNat ≠ 32 ∧ c.toNat ≠ 10 ∧ c.toNat ≠ 35 := by simp [isLetterB] at hl; omega
      simp [gapL, this]
    unfold nameB at h
    cases hx : tokenL (c :: l) with
    | none => rw [hx] at h; simp at h
    | some x =>
      obtain ⟨t, n⟩ := x
      rw [hx] at h
      simp only [Bool.and_eq_true, decide_eq_true_eq, beq_iff_eq] at h
      obtain ⟨rfl, hk⟩ := h
      obtain ⟨_, h1, h2, h3⟩ := token_name hx hk
      have h12 : (c :: l).length ≤ 12 := by
        have := hx
        simp only [tokenL, hl, if_true] at this
        split at this
        · rename_i h; have h4 := (Prod.mk.inj (Option.some.inj this)).2; omega
        · simp at this
      unfold tokensL
      rw [if_neg (by omega), scan, if_neg (by omega), hx]
      obtain ⟨k, tx, m, a⟩ := t
      dsimp only at hk h1 h2 h3 ⊢
      subst hk h1 h2 h3
      rw [List.take_of_length_le (Nat.le_refl _), List.drop_of_length_le (Nat.le_refl _), List.length_cons, scan]
      simp
theorem isName_spec {l : List UInt8} {ts : List Tok} {p : Nat} (h : tokensL l = (ts, p, 0)) (hl : ts.length = 2) : ∃ a b, ts = [a, b] ∧ (nameB l = (decide (a.kind = 1) && decide (a.text.data.toList = l))) := by
  obtain ⟨a, b, rfl⟩ : ∃ a b, ts = [a, b] := by
    match ts, hl with
    | [a, b], _ => exact ⟨a, b, rfl⟩
  refine ⟨a, b, rfl, ?_⟩
  rw [Bool.eq_iff_iff]
  simp only [Bool.and_eq_true, decide_eq_true_eq]
  constructor
  · intro hn
    rw [tokens_of_name hn] at h
    simp only [Prod.mk.injEq, List.cons.injEq] at h
    obtain ⟨⟨rfl, _⟩, _⟩ := h
    exact ⟨rfl, rfl⟩
  · rintro ⟨h1, h2⟩
    rw [← h2]
    exact name_of_tokens h a (by simp) h1
theorem isName_not {l : List UInt8} {ts : List Tok} {p : Nat} {e : Int} (h : tokensL l = (ts, p, e)) (hl : ¬ (e = 0 ∧ ts.length = 2)) : nameB l = false := by
  cases hn : nameB l with
  | false => rfl
  | true =>
    exfalso
    rw [tokens_of_name hn] at h
    simp only [Prod.mk.injEq] at h
    obtain ⟨rfl, _, rfl⟩ := h
    exact hl ⟨rfl, rfl⟩
end Go.Proofs.Ytlaflbepidkmnaa
/- Ref4 -/
namespace Go.Proofs.Ytlaflbepidkmnaa
open Go.RowKit
set_option linter.unusedSimpArgs false
attribute [local go_sem] setCell_twice ByteArray.toList_eq str_list

set_option maxHeartbeats 400000 in
theorem digitR_any (c : Int) (w : World) :
    Calls Try.prog 73 #[.int .u8 c] w fun e w' => e = .returned (.bool (isDigitB c)) ∧ w = w' := by
  go_enter Try.func73, Try.ntmps73
  go_wp2
  all_goals (go_ret; simp [isDigitB]; try omega)
set_option maxHeartbeats 400000 in
theorem smallR_any (c : Int) (w : World) :
    Calls Try.prog 51 #[.int .u8 c] w fun e w' => e = .returned (.bool (isLetterB c)) ∧ w = w' := by
  go_enter Try.func51, Try.ntmps51
  go_wp2
  all_goals (go_ret; simp [isLetterB]; try omega)

theorem wordsR_any (w : World) :
    Calls Try.prog 91 #[] w fun e w' => e = .returned (.slice (some ⟨w.heap.size, 0, none⟩) 10 10) ∧ w.alloc (.cells wordsC 9) = w' := by
  go_enter Try.func91, Try.ntmps91
  go_wp2
  go_ret
  exact ⟨rfl, rfl⟩

theorem wordAt (k : Nat) (h : k < 10) : wordsC[k]? = some (.string (str (wordsL.getD k []))) := by
  simp only [wordsC, List.getElem?_toArray, List.getElem?_map]
  rw [List.getElem?_eq_getElem (by simpa [wordsL] using h), getD_at (by simpa [wordsL] using h)]
  rfl
set_option maxHeartbeats 400000 in
theorem wordR_any (s : ByteArray) (r : Bool) (hr : wordsL.contains s.data.toList = r) (w : World) :
    Calls Try.prog 74 #[.string s] w fun e w' => e = .returned (.bool r) ∧ Below w.heap.size w w' := by
  have HR := Lib.hid hr; clear hr
  go_enter Try.func74, Try.ntmps74
  go_wp2_with (go_at_call 91; refine (wordsR_any _).mono ?_; rintro e w' ⟨rfl, rfl⟩)
  have hc : ∀ k, k < 10 → (w.alloc (.cells wordsC 9)).cell? ⟨w.heap.size, k, none⟩ = some (.string (str (wordsL.getD k []))) := fun k hk => by rw [(Blk.new _ _ _).cell, wordAt k hk]
  have hbel : Below w.heap.size w (w.alloc (.cells wordsC 9)) := (by repeat (first | exact Below.refl _ _ | assumption | refine Below.drew ?_ | refine Below.alloc ?_ (by first | (simp; done) | (simp; omega) | omega) _ | refine Below.setCell ?_ (by first | (simp; done) | (simp; omega) | omega) _))
  generalize w.alloc (.cells wordsC 9) = W at hc hbel ⊢
  have HC := Lib.hid hc; clear hc
  go_loop [4] (fun i => ∃ k : Nat, k ≤ 10 ∧ i = .int .i64 k ∧ ∀ j, j < k → wordsL.getD j [] ≠ s.data.toList) (fun i => 10 - (intOf i).toNat)
  case atStart => exact ⟨0, by omega, rfl, fun j hj => by omega⟩
  case round =>
    obtain ⟨k, hk, rfl, hno⟩ := hrel
    have HN := Lib.hid hno; clear hno
    by_cases hlt : k < 10
    · have hcell := HC.out k hlt
      by_cases he : wordsL.getD k [] = s.data.toList
      · have hm : r = true := by rw [← HR.out, List.contains_iff_mem, ← he, getD_at (by simpa [wordsL] using hlt)]; exact List.getElem_mem _
        generalize wordsL.getD k [] = x at hcell he
        have hb : (x == s.data.toList) = true := by rw [he]; simp
        have HM := Lib.hid hm; clear hm he
        go_wp2
        go_ret
        exact ⟨by rw [HM.out]; rfl, hbel⟩
      · have HE := Lib.hid he
        generalize wordsL.getD k [] = x at hcell he
        have hb : (x == s.data.toList) = false := by simpa using he
        clear he
        go_wp2
        exact ⟨⟨k + 1, by omega, rfl, fun j hj => by
          by_cases hjk : j = k
          · rw [hjk]; exact HE.out
          · exact HN.out j (by omega)⟩, by simp [intOf]; omega⟩
    · have hm : r = false := by
        rw [← HR.out, ← Bool.not_eq_true, List.contains_iff_mem]
        intro hm
        obtain ⟨j, hj, e⟩ := List.getElem_of_mem hm
        have hj' : j < 10 := by simpa [wordsL] using hj
        exact HN.out j (by omega) (by rw [getD_at hj]; exact e)
      have HM := Lib.hid hm; clear hm
      go_wp2
      go_ret
      exact ⟨by rw [HM.out]; rfl, hbel⟩

/-- what the reference's one answers -/
def OnePost : Option (Tok × Nat) → Ending → Prop
  | some (t, n), e => e = .returned (.tuple #[.agg #[.int .i64 t.kind, .string t.text, .int .i64 t.n, .int .i64 t.at_], .int .i64 n])
  | none, e => e = .returned (.tuple #[.agg #[.int .i64 0, .string ⟨#[]⟩, .int .i64 0, .int .i64 0], .int .i64 0])

set_option maxHeartbeats 1600000 in
set_option maxRecDepth 100000 in
theorem one_digit (s : ByteArray) (h : 0 < s.size) (w : World) (hs : s.size ≤ maxLen) (hd : isDigitB s[0].toNat = true) :
    Calls Try.prog 52 #[.string s] w fun e w' => OnePost (tokenL s.data.toList) e ∧ Below w.heap.size w w' := by
  have hn := runN_le s isDigitB
  have hl : isLetterB s[0].toNat = false := by simp [isDigitB, isLetterB] at hd ⊢; omega
  have E := tokenL_digit s h hl hd
  have h59 : ((s[0].toNat : Int) == 59) = false := by simp [isDigitB] at hd; simp; omega
  unfold maxLen at hs
  go_enter Try.func52, Try.ntmps52
  go_wp2_with (first | (go_at_call 73; refine (digitR_any _ _).mono ?_; rintro e w' ⟨rfl, rfl⟩))
  go_loop [4, 5] (fun i v => ∃ k : Nat, k ≤ runN s isDigitB ∧ i = .int .i64 k ∧ v = .int .i64 (valL (s.data.toList.take (min k 9)))) (fun i _ => s.size - (intOf i).toNat)
  case atStart => exact ⟨0, by omega, rfl, rfl⟩
  case round =>
    obtain ⟨k, hk, rfl, rfl⟩ := hrel
    have hv := val_nine s (min k 9) (by omega) (by omega)
    obtain ⟨hv0, hv1⟩ := hv
    by_cases hgo : k < s.size ∧ ∃ h : k < s.size, isDigitB s[k].toNat = true
    · obtain ⟨hlt, _, hdk⟩ := hgo
      have hst := run_step s isDigitB k hk hlt
      have hk1 := hst.1 hdk
      have hd := digit_at s k hk1
      have hs1 := val_step s k hk1
      have e3 : ((s.data.toList.getD k 0).toNat : Int) = s[k].toNat := by rw [getD_at (by rw [list_size]; exact hlt)]; rfl
      rw [e3] at hd hs1
      obtain ⟨hd0, hd1⟩ := hd
      have HS := Lib.hid hs1
      clear hs1 e3 hst E h59 hd
      by_cases hk9 : k < 9
      · have e2 : min k 9 = k := by omega
        rw [e2] at hv0 hv1 ⊢
        clear e2
        go_wp2_with (first | (go_at_call 73; refine (digitR_any _ _).mono ?_; rintro e w' ⟨rfl, rfl⟩))
        exact ⟨⟨k + 1, hk1, rfl, by rw [show min (k + 1) 9 = k + 1 by omega, HS.out]; congr 1; omega⟩, by simp [intOf]; omega⟩
      · have e2 : min k 9 = 9 := by omega
        rw [e2] at hv0 hv1 ⊢
        clear e2
        go_wp2_with (first | (go_at_call 73; refine (digitR_any _ _).mono ?_; rintro e w' ⟨rfl, rfl⟩))
        exact ⟨⟨k + 1, hk1, rfl, by rw [show min (k + 1) 9 = 9 by omega]⟩, by simp [intOf]; omega⟩
    · have hend : runN s isDigitB = k := by
        by_cases hlt : k < s.size
        · have hf : isDigitB s[k].toNat = false := by
            rw [← Bool.not_eq_true]
            exact fun hh => hgo ⟨hlt, hlt, hh⟩
          exact (run_step s isDigitB k hk hlt).2 hf
        · omega
      have hnd : ∀ h : k < s.size, isDigitB s[k].toNat = false := fun hlt => by
        rw [← Bool.not_eq_true]
        exact fun hh => hgo ⟨hlt, hlt, hh⟩
      have HE := Lib.hid E; clear E
      have HN := Lib.hid hend; clear hend hgo
      by_cases hok : k ≤ 9 ∧ (k ≤ 1 ∨ (s[0].toNat : Int) ≠ 48)
      · have e := HE.out.1 (by unfold numberOk; rw [HN.out]; exact hok)
        have e2 : min k 9 = k := by omega
        rw [e2]
        have HT := Lib.hid e; clear e e2 hk hv0 hv1
        have hok' : (9 < (k : Int) ∨ ((s[0].toNat : Int) == 48) = true) → (k : Int) ≤ 1 := by simp; omega
        have HO := Lib.hid hok'; clear hok'
        obtain ⟨hok1, hok2⟩ := hok
        by_cases hlt : k < s.size
        · have hf := hnd hlt
          clear hnd
          go_wp2_with (first | (go_at_call 73; refine (digitR_any _ _).mono ?_; rintro e w' ⟨rfl, rfl⟩))
          all_goals first
            | (exfalso; simp_all <;> omega)
            | (refine bodyPost_ret (v := .tuple #[.agg #[.int .i64 2, .string ⟨#[]⟩, .int .i64 (valL (s.data.toList.take k)), .int .i64 0], .int .i64 k]) ?_ rfl ⟨?_, ?_⟩; (· (simp [results, Try.results52, go_sem, *]; done)); (· rw [HT.out, HN.out]; exact rfl); (· exact (by repeat (first | exact Below.refl _ _ | assumption | refine Below.drew ?_ | refine Below.alloc ?_ (by first | (simp; done) | (simp; omega) | omega) _ | refine Below.setCell ?_ (by first | (simp; done) | (simp; omega) | omega) _))))
        · clear hnd
          go_wp2_with (first | (go_at_call 73; refine (digitR_any _ _).mono ?_; rintro e w' ⟨rfl, rfl⟩))
          all_goals first
            | (exfalso; simp_all <;> omega)
            | (refine bodyPost_ret (v := .tuple #[.agg #[.int .i64 2, .string ⟨#[]⟩, .int .i64 (valL (s.data.toList.take k)), .int .i64 0], .int .i64 k]) ?_ rfl ⟨?_, ?_⟩; (· (simp [results, Try.results52, go_sem, *]; done)); (· rw [HT.out, HN.out]; exact rfl); (· exact (by repeat (first | exact Below.refl _ _ | assumption | refine Below.drew ?_ | refine Below.alloc ?_ (by first | (simp; done) | (simp; omega) | omega) _ | refine Below.setCell ?_ (by first | (simp; done) | (simp; omega) | omega) _))))
      · have e := HE.out.2 (by unfold numberOk; rw [HN.out]; exact hok)
        have HT := Lib.hid e; clear e hk hv0 hv1
        by_cases hlt : k < s.size
        · have hf := hnd hlt
          clear hnd
          go_wp2_with (first | (go_at_call 73; refine (digitR_any _ _).mono ?_; rintro e w' ⟨rfl, rfl⟩))
          all_goals first
            | (refine bodyPost_ret (v := .tuple #[.agg #[.int .i64 0, .string ⟨#[]⟩, .int .i64 0, .int .i64 0], .int .i64 0]) ?_ rfl ⟨?_, ?_⟩; (· (simp [results, Try.results52, go_sem, *]; done)); (· rw [HT.out]; exact rfl); (· exact (by repeat (first | exact Below.refl _ _ | assumption | refine Below.drew ?_ | refine Below.alloc ?_ (by first | (simp; done) | (simp; omega) | omega) _ | refine Below.setCell ?_ (by first | (simp; done) | (simp; omega) | omega) _))))
            | (exfalso; simp_all <;> omega)
        · clear hnd
          go_wp2_with (first | (go_at_call 73; refine (digitR_any _ _).mono ?_; rintro e w' ⟨rfl, rfl⟩))
          all_goals first
            | (refine bodyPost_ret (v := .tuple #[.agg #[.int .i64 0, .string ⟨#[]⟩, .int .i64 0, .int .i64 0], .int .i64 0]) ?_ rfl ⟨?_, ?_⟩; (· (simp [results, Try.results52, go_sem, *]; done)); (· rw [HT.out]; exact rfl); (· exact (by repeat (first | exact Below.refl _ _ | assumption | refine Below.drew ?_ | refine Below.alloc ?_ (by first | (simp; done) | (simp; omega) | omega) _ | refine Below.setCell ?_ (by first | (simp; done) | (simp; omega) | omega) _))))
            | (exfalso; simp_all <;> omega)

set_option maxHeartbeats 1600000 in
set_option maxRecDepth 100000 in
theorem one_letter (s : ByteArray) (h : 0 < s.size) (w : World) (hs : s.size ≤ maxLen) (hl : isLetterB s[0].toNat = true) :
    Calls Try.prog 52 #[.string s] w fun e w' => OnePost (tokenL s.data.toList) e ∧ Below w.heap.size w w' := by
  have hn := runN_le s isMoreB
  have hd : isDigitB s[0].toNat = false := by simp [isDigitB, isLetterB] at hl ⊢; omega
  have E := Lib.hid (tokenL_letter s h hl)
  have h59 : ((s[0].toNat : Int) == 59) = false := by simp [isLetterB] at hl; simp; omega
  unfold maxLen at hs
  go_enter Try.func52, Try.ntmps52
  go_wp2_with (first | (go_at_call 73; refine (digitR_any _ _).mono ?_; rintro e w' ⟨rfl, rfl⟩) | (go_at_call 51; refine (smallR_any _ _).mono ?_; rintro e w' ⟨rfl, rfl⟩))
  go_loop [4] (fun i => ∃ k : Nat, k ≤ runN s isMoreB ∧ i = .int .i64 k) (fun i => s.size - (intOf i).toNat)
  case atStart => exact ⟨0, by omega, rfl⟩
  case round =>
    obtain ⟨k, hk, rfl⟩ := hrel
    by_cases hgo : k < s.size ∧ ∃ h : k < s.size, isMoreB s[k].toNat = true
    · obtain ⟨hlt, _, hdk⟩ := hgo
      have hk1 := (run_step s isMoreB k hk hlt).1 hdk
      have HD := Lib.hid hdk; clear hdk
      have hwd := fun (r : Bool) (hr : wordsL.contains (s.extract 0 k).data.toList = r) => wordR_any (s.extract 0 k) r hr
      go_wp2_with (first | (go_at_call 73; refine (digitR_any _ _).mono ?_; rintro e w' ⟨rfl, rfl⟩) | (go_at_call 51; refine (smallR_any _ _).mono ?_; rintro e w' ⟨rfl, rfl⟩) | (go_at_call 74; exfalso; have hx := HD.out; unfold isMoreB at hx; simp_all; done))
      all_goals exact ⟨⟨k + 1, hk1, rfl⟩, by simp [intOf]; omega⟩
    · have hend : runN s isMoreB = k := by
        by_cases hlt : k < s.size
        · have hf : isMoreB s[k].toNat = false := by
            rw [← Bool.not_eq_true]
            exact fun hh => hgo ⟨hlt, hlt, hh⟩
          exact (run_step s isMoreB k hk hlt).2 hf
        · omega
      have hnd : Hid (∀ h : k < s.size, isMoreB s[k].toNat = false) := fun hlt => by
        rw [← Bool.not_eq_true]
        exact fun hh => hgo ⟨hlt, hlt, hh⟩
      obtain ⟨r, hr⟩ : ∃ r, wordsL.contains (s.extract 0 k).data.toList = r := ⟨_, rfl⟩
      have hT : tokenL s.data.toList = if k ≤ 12 then some (⟨if r then 3 else 1, s.extract 0 k, 0, 0⟩, k) else none := by rw [E.out, hend, hr]
      have HT := Lib.hid hT
      have HR := Lib.hid hr
      have hw12 : r = true → k ≤ 12 := by
        intro hrt
        rw [hrt, List.contains_iff_mem, extract_from] at hr
        have hl : ∀ x ∈ wordsL, x.length ≤ 12 := by decide +kernel
        have := hl _ hr
        rw [List.length_take, list_size] at this
        omega
      have hks : k ≤ s.size := by rw [← hend]; exact hn
      clear hT hr hend hgo hk
      by_cases hlt : k < s.size
      · have hf := hnd.out hlt
        have hf1 : isLetterB s[k].toNat = false := by unfold isMoreB at hf; simp at hf; exact hf.1
        have hf2 : isDigitB s[k].toNat = false := by unfold isMoreB at hf; simp at hf; exact hf.2.1
        have hf3 : ((s[k].toNat : Int) == 95) = false := by unfold isMoreB at hf; simp at hf; simp; exact hf.2.2
        clear hf
        cases r with
        | true =>
          have h12 := hw12 rfl
          clear hw12
          go_wp2_with (first | (go_at_call 73; refine (digitR_any _ _).mono ?_; rintro e w' ⟨rfl, rfl⟩) | (go_at_call 51; refine (smallR_any _ _).mono ?_; rintro e w' ⟨rfl, rfl⟩) | (go_at_call 74; refine (wordR_any _ _ HR.out _).mono ?_; rintro e w1 ⟨rfl, hb⟩; have hB0 := (Blk.new _ _ _).below hb (by first | (simp; done) | (simp; omega) | omega); have cB0 := hB0.cell; have fB0 := hB0.free))
          all_goals (refine bodyPost_ret (v := .tuple #[.agg #[.int .i64 3, .string (s.extract 0 k), .int .i64 0, .int .i64 0], .int .i64 k]) ?_ rfl ⟨?_, ?_⟩; (· (simp [results, Try.results52, go_sem, *]; done)); (· rw [HT.out, if_pos h12]; exact rfl); (· exact ((((Below.trans (by repeat (first | exact Below.refl _ _ | assumption | refine Below.drew ?_ | refine Below.alloc ?_ (by first | (simp; done) | (simp; omega) | omega) _ | refine Below.setCell ?_ (by first | (simp; done) | (simp; omega) | omega) _)) (hb.mono (by first | (simp; done) | (simp; omega) | omega))).setCell (by simp) _).setCell (by simp) _).setCell (by simp) _).setCell (by simp) _))
        | false =>
          clear hw12
          by_cases h12 : k ≤ 12
          · go_wp2_with (first | (go_at_call 73; refine (digitR_any _ _).mono ?_; rintro e w' ⟨rfl, rfl⟩) | (go_at_call 51; refine (smallR_any _ _).mono ?_; rintro e w' ⟨rfl, rfl⟩) | (go_at_call 74; refine (wordR_any _ _ HR.out _).mono ?_; rintro e w1 ⟨rfl, hb⟩; have hB0 := (Blk.new _ _ _).below hb (by first | (simp; done) | (simp; omega) | omega); have cB0 := hB0.cell; have fB0 := hB0.free))
            all_goals (refine bodyPost_ret (v := .tuple #[.agg #[.int .i64 1, .string (s.extract 0 k), .int .i64 0, .int .i64 0], .int .i64 k]) ?_ rfl ⟨?_, ?_⟩; (· (simp [results, Try.results52, go_sem, *]; done)); (· rw [HT.out, if_pos h12]; exact rfl); (· exact ((((Below.trans (by repeat (first | exact Below.refl _ _ | assumption | refine Below.drew ?_ | refine Below.alloc ?_ (by first | (simp; done) | (simp; omega) | omega) _ | refine Below.setCell ?_ (by first | (simp; done) | (simp; omega) | omega) _)) (hb.mono (by first | (simp; done) | (simp; omega) | omega))).setCell (by simp) _).setCell (by simp) _).setCell (by simp) _).setCell (by simp) _))
          · go_wp2_with (first | (go_at_call 73; refine (digitR_any _ _).mono ?_; rintro e w' ⟨rfl, rfl⟩) | (go_at_call 51; refine (smallR_any _ _).mono ?_; rintro e w' ⟨rfl, rfl⟩) | (go_at_call 74; refine (wordR_any _ _ HR.out _).mono ?_; rintro e w1 ⟨rfl, hb⟩; have hB0 := (Blk.new _ _ _).below hb (by first | (simp; done) | (simp; omega) | omega); have cB0 := hB0.cell; have fB0 := hB0.free))
            all_goals (refine bodyPost_ret (v := .tuple #[.agg #[.int .i64 0, .string ⟨#[]⟩, .int .i64 0, .int .i64 0], .int .i64 0]) ?_ rfl ⟨?_, ?_⟩; (· (simp [results, Try.results52, go_sem, *]; done)); (· rw [HT.out, if_neg h12]; exact rfl); (· exact ((((Below.trans (by repeat (first | exact Below.refl _ _ | assumption | refine Below.drew ?_ | refine Below.alloc ?_ (by first | (simp; done) | (simp; omega) | omega) _ | refine Below.setCell ?_ (by first | (simp; done) | (simp; omega) | omega) _)) (hb.mono (by first | (simp; done) | (simp; omega) | omega))).setCell (by simp) _).setCell (by simp) _).setCell (by simp) _).setCell (by simp) _))
      · clear hnd
        cases r with
        | true =>
          have h12 := hw12 rfl
          clear hw12
          go_wp2_with (first | (go_at_call 73; refine (digitR_any _ _).mono ?_; rintro e w' ⟨rfl, rfl⟩) | (go_at_call 51; refine (smallR_any _ _).mono ?_; rintro e w' ⟨rfl, rfl⟩) | (go_at_call 74; refine (wordR_any _ _ HR.out _).mono ?_; rintro e w1 ⟨rfl, hb⟩; have hB0 := (Blk.new _ _ _).below hb (by first | (simp; done) | (simp; omega) | omega); have cB0 := hB0.cell; have fB0 := hB0.free))
          all_goals (refine bodyPost_ret (v := .tuple #[.agg #[.int .i64 3, .string (s.extract 0 k), .int .i64 0, .int .i64 0], .int .i64 k]) ?_ rfl ⟨?_, ?_⟩; (· (simp [results, Try.results52, go_sem, *]; done)); (· rw [HT.out, if_pos h12]; exact rfl); (· exact ((((Below.trans (by repeat (first | exact Below.refl _ _ | assumption | refine Below.drew ?_ | refine Below.alloc ?_ (by first | (simp; done) | (simp; omega) | omega) _ | refine Below.setCell ?_ (by first | (simp; done) | (simp; omega) | omega) _)) (hb.mono (by first | (simp; done) | (simp; omega) | omega))).setCell (by simp) _).setCell (by simp) _).setCell (by simp) _).setCell (by simp) _))
        | false =>
          clear hw12
          by_cases h12 : k ≤ 12
          · go_wp2_with (first | (go_at_call 73; refine (digitR_any _ _).mono ?_; rintro e w' ⟨rfl, rfl⟩) | (go_at_call 51; refine (smallR_any _ _).mono ?_; rintro e w' ⟨rfl, rfl⟩) | (go_at_call 74; refine (wordR_any _ _ HR.out _).mono ?_; rintro e w1 ⟨rfl, hb⟩; have hB0 := (Blk.new _ _ _).below hb (by first | (simp; done) | (simp; omega) | omega); have cB0 := hB0.cell; have fB0 := hB0.free))
            all_goals (refine bodyPost_ret (v := .tuple #[.agg #[.int .i64 1, .string (s.extract 0 k), .int .i64 0, .int .i64 0], .int .i64 k]) ?_ rfl ⟨?_, ?_⟩; (· (simp [results, Try.results52, go_sem, *]; done)); (· rw [HT.out, if_pos h12]; exact rfl); (· exact ((((Below.trans (by repeat (first | exact Below.refl _ _ | assumption | refine Below.drew ?_ | refine Below.alloc ?_ (by first | (simp; done) | (simp; omega) | omega) _ | refine Below.setCell ?_ (by first | (simp; done) | (simp; omega) | omega) _)) (hb.mono (by first | (simp; done) | (simp; omega) | omega))).setCell (by simp) _).setCell (by simp) _).setCell (by simp) _).setCell (by simp) _))
          · go_wp2_with (first | (go_at_call 73; refine (digitR_any _ _).mono ?_; rintro e w' ⟨rfl, rfl⟩) | (go_at_call 51; refine (smallR_any _ _).mono ?_; rintro e w' ⟨rfl, rfl⟩) | (go_at_call 74; refine (wordR_any _ _ HR.out _).mono ?_; rintro e w1 ⟨rfl, hb⟩; have hB0 := (Blk.new _ _ _).below hb (by first | (simp; done) | (simp; omega) | omega); have cB0 := hB0.cell; have fB0 := hB0.free))
            all_goals (refine bodyPost_ret (v := .tuple #[.agg #[.int .i64 0, .string ⟨#[]⟩, .int .i64 0, .int .i64 0], .int .i64 0]) ?_ rfl ⟨?_, ?_⟩; (· (simp [results, Try.results52, go_sem, *]; done)); (· rw [HT.out, if_neg h12]; exact rfl); (· exact ((((Below.trans (by repeat (first | exact Below.refl _ _ | assumption | refine Below.drew ?_ | refine Below.alloc ?_ (by first | (simp; done) | (simp; omega) | omega) _ | refine Below.setCell ?_ (by first | (simp; done) | (simp; omega) | omega) _)) (hb.mono (by first | (simp; done) | (simp; omega) | omega))).setCell (by simp) _).setCell (by simp) _).setCell (by simp) _).setCell (by simp) _))

set_option maxHeartbeats 800000 in
set_option maxRecDepth 100000 in
theorem one_other (s : ByteArray) (h : 0 < s.size) (w : World) (hl : isLetterB s[0].toNat = false) (hd : isDigitB s[0].toNat = false) :
    Calls Try.prog 52 #[.string s] w fun e w' => OnePost (tokenL s.data.toList) e ∧ Below w.heap.size w w' := by
  have e : tokenL s.data.toList = if (s[0].toNat : Int) = 59 then some (⟨3, ⟨#[59]⟩, 0, 0⟩, 1) else none := by
    have e := data_cons s h
    have hc : ((s[0].toNat : Int) = 59) ↔ (s[0].toNat = 59) := by omega
    simp only [hc]
    unfold tokenL
    rw [e]
    simp only [hl, hd, Bool.false_eq_true, if_false]
  by_cases h59 : (s[0].toNat : Int) = 59
  · rw [if_pos h59] at e
    have E := Lib.hid e; clear e
    have hb : ((s[0].toNat : Int) == 59) = true := by simpa using h59
    clear h59
    go_enter Try.func52, Try.ntmps52
    go_wp2_with (first | (go_at_call 73; refine (digitR_any _ _).mono ?_; rintro e w' ⟨rfl, rfl⟩) | (go_at_call 51; refine (smallR_any _ _).mono ?_; rintro e w' ⟨rfl, rfl⟩))
    all_goals (refine bodyPost_ret (v := .tuple #[.agg #[.int .i64 3, .string ⟨#[59]⟩, .int .i64 0, .int .i64 0], .int .i64 1]) ?_ rfl ⟨?_, ?_⟩; (· (simp [results, Try.results52, go_sem, *]; done)); (· rw [E.out]; exact rfl); (· exact (by repeat (first | exact Below.refl _ _ | assumption | refine Below.drew ?_ | refine Below.alloc ?_ (by first | (simp; done) | (simp; omega) | omega) _ | refine Below.setCell ?_ (by first | (simp; done) | (simp; omega) | omega) _))))
  · rw [if_neg h59] at e
    have E := Lib.hid e; clear e
    have hb : ((s[0].toNat : Int) == 59) = false := by simpa using h59
    clear h59
    go_enter Try.func52, Try.ntmps52
    go_wp2_with (first | (go_at_call 73; refine (digitR_any _ _).mono ?_; rintro e w' ⟨rfl, rfl⟩) | (go_at_call 51; refine (smallR_any _ _).mono ?_; rintro e w' ⟨rfl, rfl⟩))
    all_goals (refine bodyPost_ret (v := .tuple #[.agg #[.int .i64 0, .string ⟨#[]⟩, .int .i64 0, .int .i64 0], .int .i64 0]) ?_ rfl ⟨?_, ?_⟩; (· (simp [results, Try.results52, go_sem, *]; done)); (· rw [E.out]; exact rfl); (· exact (by repeat (first | exact Below.refl _ _ | assumption | refine Below.drew ?_ | refine Below.alloc ?_ (by first | (simp; done) | (simp; omega) | omega) _ | refine Below.setCell ?_ (by first | (simp; done) | (simp; omega) | omega) _))))

theorem one_any (s : ByteArray) (h : 0 < s.size) (w : World) (hs : s.size ≤ maxLen) :
    Calls Try.prog 52 #[.string s] w fun e w' => OnePost (tokenL s.data.toList) e ∧ Below w.heap.size w w' := by
  by_cases hl : isLetterB s[0].toNat = true
  · exact one_letter s h w hs hl
  · by_cases hd : isDigitB s[0].toNat = true
    · exact one_digit s h w hs hd
    · exact one_other s h w (by simpa using hl) (by simpa using hd)

end Go.Proofs.Ytlaflbepidkmnaa
/- Tsk2 -/
namespace Go.Proofs.Ytlaflbepidkmnaa
open Go.RowKit
set_option linter.unusedSimpArgs false
attribute [local go_sem] setCell_twice ByteArray.toList_eq str_list

set_option maxHeartbeats 1600000 in
set_option maxRecDepth 100000 in
theorem nameR_any (s : ByteArray) (w : World) (hs : s.size ≤ maxLen) :
    Calls Try.prog 33 #[.string s] w fun e w' => e = .returned (.bool (nameB s.data.toList)) ∧ Below w.heap.size w w' := by
  by_cases hz : s.size = 0
  · have hl : s.data.toList = [] := List.eq_nil_of_length_eq_zero (by rw [list_size]; exact hz)
    rw [hl]
    go_enter Try.func33, Try.ntmps33
    have hzb : ((s.size : Int) == 0) = true := by rw [beq_iff_eq]; omega
    go_wp2_with (fail)
    go_ret
    exact ⟨rfl, (by repeat (first | exact Below.refl _ _ | assumption | refine Below.drew ?_ | refine Below.alloc ?_ (by first | (simp; done) | (simp; omega) | omega) _ | refine Below.setCell ?_ (by first | (simp; done) | (simp; omega) | omega) _))⟩
  · have h0 : 0 < s.size := by omega
    have hzb : ((s.size : Int) == 0) = false := by rw [beq_eq_false_iff_ne]; omega
    have on := fun (W : World) => one_any s h0 W hs
    have hcons := data_cons s h0
    cases hl : isLetterB s[0].toNat with
    | false =>
      have E : nameB s.data.toList = false := by
        cases hn : nameB s.data.toList with
        | false => rfl
        | true =>
          rw [hcons] at hn
          rw [letter_name hn] at hl
          cases hl
      rw [E]
      clear hz E hcons on
      unfold maxLen at hs
      go_enter Try.func33, Try.ntmps33
      go_wp2_with (go_at_call 51; refine (smallR_any _ _).mono ?_; rintro e w' ⟨rfl, rfl⟩; rw [hl])
      go_ret
      exact ⟨rfl, (by repeat (first | exact Below.refl _ _ | assumption | refine Below.drew ?_ | refine Below.alloc ?_ (by first | (simp; done) | (simp; omega) | omega) _ | refine Below.setCell ?_ (by first | (simp; done) | (simp; omega) | omega) _))⟩
    | true =>
      clear hz hcons
      unfold nameB
      have hle : ∀ t n, tokenL s.data.toList = some (t, n) → n ≤ s.size := fun t n h => by have := (tokenL_some h).2; rwa [list_size] at this
      cases hx : tokenL s.data.toList with
      | none =>
        rw [hx] at on
        have ON := Lib.hid on; clear on
        clear hx hle
        unfold maxLen at hs
        go_enter Try.func33, Try.ntmps33
        have hzc : ((0 : Int) == (s.size : Int)) = false := by rw [beq_eq_false_iff_ne]; omega
        go_wp2_with (first | (go_at_call 51; refine (smallR_any _ _).mono ?_; rintro e w' ⟨rfl, rfl⟩; rw [hl]) | (go_at_call 52; refine (ON.out _).mono ?_; rintro e w1 ⟨rfl, hb⟩))
        go_ret
        exact ⟨rfl, hb.alloc hb.size _⟩
      | some x =>
        obtain ⟨t, n⟩ := x
        have hn := hle t n hx
        rw [hx] at on
        have ON := Lib.hid on; clear on
        clear hx hle
        unfold maxLen at hs
        rw [list_size]
        dsimp only
        cases hnb : ((n : Int) == (s.size : Int)) with
        | true =>
          have hd : decide (n = s.size) = true := by rw [beq_iff_eq] at hnb; simp; omega
          rw [hd]
          clear hd
          cases hk : t.kind == 1 with
          | true =>
            go_enter Try.func33, Try.ntmps33
            go_wp2_with (first | (go_at_call 51; refine (smallR_any _ _).mono ?_; rintro e w' ⟨rfl, rfl⟩; rw [hl]) | (go_at_call 52; refine (ON.out _).mono ?_; rintro e w1 ⟨rfl, hb⟩))
            go_ret
            exact ⟨rfl, hb.alloc hb.size _⟩
          | false =>
            go_enter Try.func33, Try.ntmps33
            go_wp2_with (first | (go_at_call 51; refine (smallR_any _ _).mono ?_; rintro e w' ⟨rfl, rfl⟩; rw [hl]) | (go_at_call 52; refine (ON.out _).mono ?_; rintro e w1 ⟨rfl, hb⟩))
            go_ret
            exact ⟨rfl, hb.alloc hb.size _⟩
        | false =>
          have hd : decide (n = s.size) = false := by rw [beq_eq_false_iff_ne] at hnb; simp; omega
          rw [hd]
          clear hd
          go_enter Try.func33, Try.ntmps33
          go_wp2_with (first | (go_at_call 51; refine (smallR_any _ _).mono ?_; rintro e w' ⟨rfl, rfl⟩; rw [hl]) | (go_at_call 52; refine (ON.out _).mono ?_; rintro e w1 ⟨rfl, hb⟩))
          go_ret
          exact ⟨rfl, hb.alloc hb.size _⟩
end Go.Proofs.Ytlaflbepidkmnaa
/- Tsk3 -/
namespace Go.Proofs.Ytlaflbepidkmnaa
open Go.RowKit
attribute [local go_sem] setCell_twice ByteArray.toList_eq str_list
set_option linter.unusedSimpArgs false

/-- may a task be? -/
def isB (t : Tsk) (p : Int) : Bool := nameB t.name.data.toList && (regsB t.regs && (decide (workL t.regs ≤ t.D) && (decide (t.D ≤ t.T) && ((decide (t.T ≥ 0) && decide (t.T ≤ 10000)) && (modeB t p && (bits BinOp.andNot IntKind.u64 t.ucb t.ecb == 0))))))
end Go.Proofs.Ytlaflbepidkmnaa
/- TskZ -/
namespace Go.Proofs.Ytlaflbepidkmnaa
open Go.RowKit

section
variable {W w : World} {g g' : Nat} {t t' : TypeId} {z0 z1 z2 z3 z4 z5 z6 z7 z8 v0 v1 v2 v3 v4 v5 v6 v7 v8 : Value} {cs : Array Value}
theorem ext_ch9 (h : Ext W w) (hg : W.heap.size ≤ g) : Ext W (((((((((w.setCell ⟨g, 0, none⟩ v0).setCell ⟨g, 1, none⟩ v1).setCell ⟨g, 2, none⟩ v2).setCell ⟨g, 3, none⟩ v3).setCell ⟨g, 4, none⟩ v4).setCell ⟨g, 5, none⟩ v5).setCell ⟨g, 6, none⟩ v6).setCell ⟨g, 7, none⟩ v7).setCell ⟨g, 8, none⟩ v8) :=
  (((((((((h.set hg _).set hg _).set hg _).set hg _).set hg _).set hg _).set hg _).set hg _).set hg _)
theorem blk_ch9 (h : Blk w g #[z0, z1, z2, z3, z4, z5, z6, z7, z8] t) : Blk (((((((((w.setCell ⟨g, 0, none⟩ v0).setCell ⟨g, 1, none⟩ v1).setCell ⟨g, 2, none⟩ v2).setCell ⟨g, 3, none⟩ v3).setCell ⟨g, 4, none⟩ v4).setCell ⟨g, 5, none⟩ v5).setCell ⟨g, 6, none⟩ v6).setCell ⟨g, 7, none⟩ v7).setCell ⟨g, 8, none⟩ v8) g #[v0, v1, v2, v3, v4, v5, v6, v7, v8] t := by
  have h := (((((((((h.set 0 v0).set 1 v1).set 2 v2).set 3 v3).set 4 v4).set 5 v5).set 6 v6).set 7 v7).set 8 v8)
  simp only [List.setIfInBounds_toArray, List.set_cons_zero, List.set_cons_succ] at h
  exact h
theorem blk_ch9_far (h : Blk w g' cs t') (hne : g' ≠ g) : Blk (((((((((w.setCell ⟨g, 0, none⟩ v0).setCell ⟨g, 1, none⟩ v1).setCell ⟨g, 2, none⟩ v2).setCell ⟨g, 3, none⟩ v3).setCell ⟨g, 4, none⟩ v4).setCell ⟨g, 5, none⟩ v5).setCell ⟨g, 6, none⟩ v6).setCell ⟨g, 7, none⟩ v7).setCell ⟨g, 8, none⟩ v8) g' cs t' :=
  (((((((((h.far (p := ⟨g, 0, none⟩) hne v0).far (p := ⟨g, 1, none⟩) hne v1).far (p := ⟨g, 2, none⟩) hne v2).far (p := ⟨g, 3, none⟩) hne v3).far (p := ⟨g, 4, none⟩) hne v4).far (p := ⟨g, 5, none⟩) hne v5).far (p := ⟨g, 6, none⟩) hne v6).far (p := ⟨g, 7, none⟩) hne v7).far (p := ⟨g, 8, none⟩) hne v8)
end
/-- task t lies in block b from o on -/
def TaskAt (w : World) (b o : Nat) (t : Tsk) (r : Value) : Prop :=
  Ints w r t.regs ∧ w.cell? ⟨b, o, none⟩ = some (.string t.name) ∧ w.cell? ⟨b, o + 1, none⟩ = some (.int .i64 t.T) ∧ w.cell? ⟨b, o + 2, none⟩ = some (.int .i64 t.D) ∧ w.cell? ⟨b, o + 3, none⟩ = some (.int .i64 t.mode) ∧
    w.cell? ⟨b, o + 4, none⟩ = some (.int .i64 t.q) ∧ w.cell? ⟨b, o + 5, none⟩ = some (.int .i64 t.theta) ∧ w.cell? ⟨b, o + 6, none⟩ = some r ∧ w.cell? ⟨b, o + 7, none⟩ = some (.int .u64 t.ecb) ∧ w.cell? ⟨b, o + 8, none⟩ = some (.int .u64 t.ucb)
theorem TaskAt.ext {w w' : World} {b o : Nat} {t : Tsk} {r : Value} (h : TaskAt w b o t r) (hx : Ext w w') : TaskAt w' b o t r := by
  obtain ⟨h0, h1, h2, h3, h4, h5, h6, h7, h8, h9⟩ := h
  exact ⟨h0.ext hx, hx.cell h1, hx.cell h2, hx.cell h3, hx.cell h4, hx.cell h5, hx.cell h6, hx.cell h7, hx.cell h8, hx.cell h9⟩
theorem TaskAt.row {w : World} {b o : Nat} {t : Tsk} {r : Value} (h : TaskAt w b o t r) : ∃ A c, r = .slice A t.regs.length c := by
  obtain ⟨⟨A, c, e, _⟩, _⟩ := h
  exact ⟨A, c, e⟩
/-- v reads as the tasks ts -/
def Tasks (w : World) (v : Value) (ts : List Tsk) : Prop :=
  ∃ A c, v = .slice A ts.length c ∧ ts.length ≤ c ∧ c ≤ maxLen ∧ (ts ≠ [] → ∃ b o, A = some ⟨b, o, none⟩ ∧ ∀ i (h : i < ts.length), ∃ r, TaskAt w b (o + i * 9) ts[i] r)
theorem Tasks.ext {w w' : World} {v : Value} {ts : List Tsk} (h : Tasks w v ts) (hx : Ext w w') : Tasks w' v ts := by
  obtain ⟨A, c, rfl, h1, h2, h3⟩ := h
  refine ⟨A, c, rfl, h1, h2, fun hne => ?_⟩
  obtain ⟨b, o, e, h4⟩ := h3 hne
  exact ⟨b, o, e, fun i hi => (h4 i hi).imp fun r hr => hr.ext hx⟩
theorem Tasks.at {w : World} {A : Option Addr} {n c : Nat} {ts : List Tsk} (h : Tasks w (.slice A n c) ts) {k : Nat} (hk : k < ts.length) : ∃ b o r, A = some ⟨b, o, none⟩ ∧ TaskAt w b (o + k * 9) ts[k] r := by
  obtain ⟨A', c', e1, _, _, h3⟩ := h
  obtain ⟨rfl, _, rfl⟩ := Value.slice.inj e1
  obtain ⟨b, o, e, hx⟩ := h3 (fun e => by rw [e] at hk; simp at hk)
  obtain ⟨r, hr⟩ := hx k hk
  exact ⟨b, o, r, e, hr⟩
/-- the facts on one task, for whatever world has them still -/
theorem TaskAt.under {w : World} {b o : Nat} {t : Tsk} {r : Value} (h : TaskAt w b o t r) :
    (∀ w', Ext w w' → w'.cell? ⟨b, o, none⟩ = some (.string t.name)) ∧ (∀ w', Ext w w' → w'.cell? ⟨b, o + 1, none⟩ = some (.int .i64 t.T)) ∧ (∀ w', Ext w w' → w'.cell? ⟨b, o + 2, none⟩ = some (.int .i64 t.D)) ∧
    (∀ w', Ext w w' → w'.cell? ⟨b, o + 3, none⟩ = some (.int .i64 t.mode)) ∧ (∀ w', Ext w w' → w'.cell? ⟨b, o + 4, none⟩ = some (.int .i64 t.q)) ∧ (∀ w', Ext w w' → w'.cell? ⟨b, o + 5, none⟩ = some (.int .i64 t.theta)) ∧
    (∀ w', Ext w w' → w'.cell? ⟨b, o + 6, none⟩ = some r) ∧ (∀ w', Ext w w' → w'.cell? ⟨b, o + 7, none⟩ = some (.int .u64 t.ecb)) ∧ (∀ w', Ext w w' → w'.cell? ⟨b, o + 8, none⟩ = some (.int .u64 t.ucb)) := by
  obtain ⟨_, h1, h2, h3, h4, h5, h6, h7, h8, h9⟩ := h
  exact ⟨fun _ x => x.cell h1, fun _ x => x.cell h2, fun _ x => x.cell h3, fun _ x => x.cell h4, fun _ x => x.cell h5, fun _ x => x.cell h6, fun _ x => x.cell h7, fun _ x => x.cell h8, fun _ x => x.cell h9⟩
def sameB (a b : Tsk) : Bool := a.name.data == b.name.data && a.T == b.T && a.D == b.D && a.mode == b.mode && a.q == b.q && a.theta == b.theta && a.ecb == b.ecb && a.ucb == b.ucb && decide (a.regs = b.regs)
theorem sameB_iff {a b : Tsk} : sameB a b = true ↔ a = b := by
  constructor
  · intro h
    simp only [sameB, Bool.and_eq_true, beq_iff_eq, decide_eq_true_eq] at h
    obtain ⟨⟨⟨⟨⟨⟨⟨⟨h1, h2⟩, h3⟩, h4⟩, h5⟩, h6⟩, h7⟩, h8⟩, h9⟩ := h
    obtain ⟨⟨n⟩, _, _, _, _, _, _, _, _⟩ := a
    obtain ⟨⟨n'⟩, _, _, _, _, _, _, _, _⟩ := b
    simp_all
  · rintro rfl
    simp [sameB]
instance tskEq : DecidableEq Tsk := fun _ _ => decidable_of_iff _ sameB_iff
theorem sameB_eq (a b : Tsk) : sameB a b = decide (a = b) := by
  rw [Bool.eq_iff_iff, sameB_iff, decide_eq_true_eq]
theorem diffB_eq (a b : Tsk) : ((!(a.name.data == b.name.data)) || a.T != b.T || a.D != b.D || a.mode != b.mode || a.q != b.q || a.theta != b.theta || a.ecb != b.ecb || a.ucb != b.ucb || !decide (a.regs = b.regs)) = !decide (a = b) := by
  rw [← sameB_eq, sameB]
  simp only [Bool.not_and, bne]
/-- a set -/
structure TSet where
  reload : Int
  tasks : List Tsk
theorem TSet.ext' {a b : TSet} (h1 : a.reload = b.reload) (h2 : a.tasks = b.tasks) : a = b := by cases a; cases b; simp_all
instance setEq : DecidableEq TSet := fun a b => decidable_of_iff (a.reload = b.reload ∧ a.tasks = b.tasks) ⟨fun h => TSet.ext' h.1 h.2, fun h => by rw [h]; exact ⟨rfl, rfl⟩⟩
theorem setEq_dec (s u : TSet) : (s.reload == u.reload && decide (s.tasks = u.tasks)) = decide (s = u) := by
  rw [Bool.eq_iff_iff]
  simp only [Bool.and_eq_true, beq_iff_eq, decide_eq_true_eq]
  exact ⟨fun h => TSet.ext' h.1 h.2, fun h => by rw [h]; exact ⟨rfl, rfl⟩⟩
def setV (s : TSet) (v : Value) : Value := .agg #[.int .i64 s.reload, v]
/-- texts and numbers as they may be -/
def TSet.good (s : TSet) : Prop := ∀ t ∈ s.tasks, t.name.size ≤ maxLen
theorem Tasks.len {w : World} {v : Value} {ts : List Tsk} (h : Tasks w v ts) : ts.length ≤ 9223372036854775807 := by
  obtain ⟨_, c, _, h1, h2, _⟩ := h
  unfold maxLen at h2
  omega
end Go.Proofs.Ytlaflbepidkmnaa
/- KM -/
namespace Go.Proofs.Ytlaflbepidkmnaa

/-- a task's state -/
structure St where
  pend : Bool
  start : Bool
  mid : Bool
  arr : Int
deriving DecidableEq
def St.zero : St := ⟨false, false, false, 0⟩
/-- a job -/
structure Jb where
  r : List Int
  d : List Int
  k : Nat
  n : Int
  how : Int
deriving DecidableEq
structure Ev where
  tick : Int
  kind : Int
  task : Int
  n : Int
deriving DecidableEq
structure Inp where
  arrive : Nat
  dems : List (List Int)
  touch : Nat
structure KS where
  t : Int
  ran : Int
  last : Int
  jobs : List Jb
  tab : List St
  had : List Nat
  load : List Int
  own : List Int
  pol : List Int
  evs : List Ev
def Jb.zero : Jb := ⟨[], [], 0, 0, 2⟩
def demL (d : List Int) (i : Nat) : Int := max 1 (d.getD i 1)
def newJ (r d : List Int) : Jb := ⟨r, (List.range r.length).map (demL d), 0, 0, 0⟩
/-- a tick of a job: which region, how it came out -/
def Jb.step (j : Jb) : Jb × Int × Int :=
  if j.how ≠ 0 then (j, -1, j.how)
  else if j.n + 1 = j.d.getD j.k 0 then
    (if j.k + 1 = j.r.length then ({ j with k := j.k + 1, n := 0, how := 2 }, j.k, 2) else ({ j with k := j.k + 1, n := 0 }, j.k, 1))
  else if j.n + 1 = j.r.getD j.k 0 then ({ j with n := j.n + 1, how := 3 }, j.k, 3)
  else ({ j with n := j.n + 1 }, j.k, 0)
def Jb.mid (j : Jb) : Bool := decide (0 < j.n)

def heldO (own : List Int) (i : Int) : Nat := (List.range 64).foldl (fun x c => if own.getD c 0 = i + 1 then x ||| 2 ^ c else x) 0
def touchO (own : List Int) (i : Int) (sets : Nat) : List Int := own.mapIdx fun c o => if sets.testBit c then i + 1 else o
def lostO (own : List Int) (i : Int) (had : Nat) : Nat := had ^^^ (had &&& heldO own i)

/-- the least of those that are there -/
def minO (l : List (Option Int)) : Option Int := l.foldl (fun o x => match x with
  | none => o
  | some b => match o with
    | none => some b
    | some a => if b < a then some b else some a) none
def St.was (x : St) : Option Int := if x.pend = true then some x.arr else none
/-- the oldest job of those ahead -/
def oldS (tab : List St) : Option Int := minO (tab.map St.was)
def TSet.tk (s : TSet) (i : Nat) : Tsk := s.tasks.getD i ⟨⟨#[]⟩, 0, 0, 0, 0, 0, [], 0, 0⟩
def stAt (tab : List St) (i : Nat) : St := tab.getD i St.zero
def rankS (s : TSet) (tab : List St) (i : Nat) : Int :=
  if (stAt tab i).pend = true then (if (s.tk i).mode = 2 ∧ (stAt tab i).start = true then (s.tk i).theta else i) else -1
def heldS (s : TSet) (tab : List St) (last tick : Int) : Bool :=
  decide (0 ≤ last) && ((stAt tab last.toNat).pend && (stAt tab last.toNat).start &&
    (if (s.tk last.toNat).mode = 0 then (stAt tab last.toNat).mid else if (s.tk last.toNat).mode = 1 then (match oldS (tab.take last.toNat) with | some a => decide (tick < a + (s.tk last.toNat).q) | none => false) else false))
def bestS (s : TSet) (tab : List St) (n : Nat) : Int :=
  (List.range n).foldl (fun b i => if (stAt tab i).pend = true ∧ (b = -1 ∨ rankS s tab i ≤ rankS s tab b.toNat) then (i : Int) else b) (-1)
def chooseS (s : TSet) (tab : List St) (last tick : Int) : Int := if heldS s tab last tick = true then last else bestS s tab tab.length

def KS.tell (k : KS) (kind task n : Int) : KS := { k with evs := k.evs ++ [⟨k.t, kind, task, n⟩] }
def lateB (s : TSet) (k : KS) (i : Nat) : Bool := (stAt k.tab i).pend && decide ((stAt k.tab i).arr + (s.tk i).D = k.t)
def late1 (s : TSet) (k : KS) (i : Nat) : KS := if lateB s k i = true then k.tell 3 i 0 else k
def lateK (s : TSet) (k : KS) : KS := (List.range s.tasks.length).foldl (late1 s) k
def earlyB (s : TSet) (k : KS) (i : Nat) : Bool := decide (0 ≤ k.pol.getD i (-1)) && (decide (k.t < k.pol.getD i (-1)) || decide (k.t - k.pol.getD i (-1) < (s.tk i).T))
def admitK (s : TSet) (x : Inp) (k : KS) (i : Nat) : KS :=
  ({ k with pol := k.pol.set i k.t, tab := k.tab.set i ⟨true, false, false, k.t⟩, jobs := k.jobs.set i (newJ (s.tk i).regs (x.dems.getD i [])) } : KS).tell 1 i 0
def arrive1 (s : TSet) (x : Inp) (k : KS) (i : Nat) : KS :=
  if x.arrive.testBit i = false then k else if earlyB s k i = true then k.tell 2 i 1 else if (stAt k.tab i).pend = true then k.tell 2 i 2 else admitK s x k i
def arriveK (s : TSet) (x : Inp) (k : KS) : KS := (List.range s.tasks.length).foldl (arrive1 s x) k
def preK (s : TSet) (k : KS) (now : Nat) : KS :=
  if 0 ≤ k.last ∧ k.last ≠ now then ({ k with had := k.had.set k.last.toNat (heldO k.own k.last &&& (s.tk k.last.toNat).ucb.toNat) } : KS).tell 5 k.last 0 else k
def popK (n : Nat) : Nat := (List.range 64).countP n.testBit
def turnK (s : TSet) (k : KS) (now : Nat) : KS :=
  let k1 := preK s k now
  if (stAt k.tab now).start = false then ({ k1 with tab := k1.tab.set now { stAt k1.tab now with start := true }, load := k1.load.set now 0 } : KS).tell 4 now 0
  else if k.last ≠ now then
    let lost := lostO k1.own now (k1.had.getD now 0)
    ({ k1 with load := k1.load.set now (s.reload * popK lost), own := touchO k1.own now lost } : KS).tell 6 now (s.reload * popK lost)
  else k1
def runsK (s : TSet) (k : KS) (now : Nat) (touch : Nat) : KS :=
  let k1 : KS := { k with own := touchO k.own now (touch &&& (s.tk now).ecb.toNat) }
  if 0 < k1.load.getD now 0 then { k1 with load := k1.load.set now (k1.load.getD now 0 - 1), tab := k1.tab.set now { stAt k1.tab now with mid := true } }
  else
    let p := (k1.jobs.getD now Jb.zero).step
    let took := k1.t + 1 - (stAt k1.tab now).arr
    let k2 : KS := { k1 with jobs := k1.jobs.set now p.1 }
    let k3 := if p.2.2 = 1 ∨ p.2.2 = 2 then k2.tell 7 now p.2.1 else k2
    if p.2.2 = 2 then { k3.tell 8 now took with tab := k3.tab.set now St.zero, last := -1 }
    else if p.2.2 = 3 then { k3.tell 9 now took with tab := k3.tab.set now St.zero, last := -1 }
    else { k3 with tab := k3.tab.set now { stAt k3.tab now with mid := p.1.mid } }
/-- a tick -/
def stepK (s : TSet) (k : KS) (x : Inp) : KS :=
  let k1 := arriveK s x (lateK s { k with evs := [] })
  let now := chooseS s k1.tab k1.last k1.t
  let k2 := if now = -1 then k1.tell 10 (-1) 0 else runsK s { turnK s k1 now.toNat with last := now } now.toNat x.touch
  { k2 with ran := now, t := k2.t + 1 }
def initK (s : TSet) : KS :=
  ⟨0, -1, -1, List.replicate s.tasks.length Jb.zero, List.replicate s.tasks.length St.zero, List.replicate s.tasks.length 0, List.replicate s.tasks.length 0, List.replicate 64 0, List.replicate s.tasks.length (-1), []⟩
def runK (s : TSet) : List Inp → KS → List Ev × KS
  | [], k => ([], k)
  | x :: l, k => let p := runK s l (stepK s k x); ((stepK s k x).evs ++ p.1, p.2)
def eventsK (s : TSet) (l : List Inp) : List Ev := (runK s l (initK s)).1
end Go.Proofs.Ytlaflbepidkmnaa
