/- Plain: what lex.Tokens and the reference's Tokens compute, on lists of bytes, and that they are one. -/
import Init
namespace Go.Proofs.YtniejidekflmiaaGreatDoor

def isLetterB (c : Int) : Bool := decide (97 ≤ c) && decide (c ≤ 122)
def isDigitB (c : Int) : Bool := decide (48 ≤ c) && decide (c ≤ 57)
def isMoreB (c : Int) : Bool := isLetterB c || (isDigitB c || c == 95)
def notFeedB (c : Int) : Bool := c != 10

/-- how many bytes a text begins with that are such -/
def runL (p : Int → Bool) (l : List UInt8) : Nat := (l.takeWhile (fun b => p b.toNat)).length

/-- The words of the language. -/
def wordsL : List (List UInt8) := [[114, 101, 108, 111, 97, 100], [116, 97, 115, 107], [112, 101, 114, 105, 111, 100], [100, 101, 97, 100, 108, 105, 110, 101], [102, 105, 120, 101, 100], [102, 108, 111, 97, 116], [116, 104, 114, 101, 115, 104], [114, 101, 103, 105, 111, 110, 115], [101, 99, 98], [117, 99, 98]]

/-- how many bytes a text begins with that are between tokens -/
def gapL (l : List UInt8) : Nat :=
  match l with
  | [] => 0
  | c :: _ => if c.toNat = 32 ∨ c.toNat = 10 then 1 else if c.toNat = 35 then runL notFeedB l else 0

/-- the value of digits -/
def valL (l : List UInt8) : Int := l.foldl (fun v c => v * 10 + ((c.toNat : Int) - 48)) 0

structure Tok where
  kind : Int
  text : ByteArray
  n : Int
  at_ : Int
deriving DecidableEq

/-- the token that a text begins with (its place 0), and how many bytes; none: it errs -/
def tokenL (l : List UInt8) : Option (Tok × Nat) :=
  match l with
  | [] => none
  | c :: _ =>
    if isLetterB c.toNat then
      let n := runL isMoreB l
      if n ≤ 12 then some (⟨if wordsL.contains (l.take n) then 3 else 1, ⟨(l.take n).toArray⟩, 0, 0⟩, n) else none
    else if isDigitB c.toNat then
      let n := runL isDigitB l
      if n ≤ 9 ∧ (n ≤ 1 ∨ c.toNat ≠ 48) then some (⟨2, ⟨#[]⟩, valL (l.take n), 0⟩, n) else none
    else if c.toNat = 59 then some (⟨3, ⟨#[59]⟩, 0, 0⟩, 1)
    else none

/-- all tokens, or the first place that errs: place, error -/
def scan : Nat → Nat → List UInt8 → List Tok → List Tok × Nat × Int
  | 0, _, _, _ => ([], 0, 0)
  | _ + 1, at_, [], acc => (acc ++ [⟨4, ⟨#[]⟩, 0, at_⟩], at_, 0)
  | f + 1, at_, c :: l, acc =>
    if 0 < gapL (c :: l) then scan f (at_ + gapL (c :: l)) ((c :: l).drop (gapL (c :: l))) acc
    else match tokenL (c :: l) with
      | none => ([], at_, 2)
      | some (t, n) => scan f (at_ + n) ((c :: l).drop n) (acc ++ [{ t with at_ := at_ }])

def tokensL (l : List UInt8) : List Tok × Nat × Int := if l.length > 4000 then ([], 0, 3) else scan (l.length + 1) 0 l []

/-- the reference's way: byte by byte through notes -/
def scanR : Nat → Nat → Bool → List UInt8 → List Tok → List Tok × Nat × Int
  | 0, _, _, _, _ => ([], 0, 0)
  | _ + 1, at_, _, [], acc => (acc ++ [⟨4, ⟨#[]⟩, 0, at_⟩], at_, 0)
  | f + 1, at_, note, c :: l, acc =>
    if note = true ∨ c.toNat = 35 then scanR f (at_ + 1) (c.toNat != 10) l acc
    else if c.toNat = 32 ∨ c.toNat = 10 then scanR f (at_ + 1) false l acc
    else match tokenL (c :: l) with
      | none => ([], at_, 2)
      | some (t, n) => scanR f (at_ + n) false ((c :: l).drop n) (acc ++ [{ t with at_ := at_ }])

def tokensR (l : List UInt8) : List Tok × Nat × Int := if l.length > 4000 then ([], 0, 3) else scanR (l.length + 1) 0 false l []

theorem runL_le (p : Int → Bool) (l : List UInt8) : runL p l ≤ l.length := (List.takeWhile_sublist _).length_le
theorem runL_pos {p : Int → Bool} {c : UInt8} {l : List UInt8} (h : p c.toNat = true) : 1 ≤ runL p (c :: l) := by
  unfold runL
  rw [List.takeWhile_cons, if_pos h]
  simp

theorem tokenL_some {l : List UInt8} {t : Tok} {n : Nat} (h : tokenL l = some (t, n)) : 1 ≤ n ∧ n ≤ l.length := by
  unfold tokenL at h
  split at h
  · cases h
  · rename_i c l
    split at h
    · rename_i hl
      dsimp only at h
      split at h
      · simp only [Option.some.injEq, Prod.mk.injEq] at h
        have h1 : isMoreB c.toNat = true := by unfold isMoreB; rw [hl]; rfl
        have := runL_pos (l := l) h1
        have := runL_le isMoreB (c :: l)
        omega
      · cases h
    · split at h
      · rename_i hl hd
        dsimp only at h
        split at h
        · simp only [Option.some.injEq, Prod.mk.injEq] at h
          have := runL_pos (l := l) hd
          have := runL_le isDigitB (c :: l)
          omega
        · cases h
      · split at h
        · simp only [Option.some.injEq, Prod.mk.injEq] at h
          simp only [List.length_cons]
          omega
        · cases h

theorem gapL_le (l : List UInt8) : gapL l ≤ l.length := by
  unfold gapL
  split
  · simp
  · split
    · simp
    · split
      · exact runL_le _ _
      · omega

/-- through a note byte by byte -/
theorem scanR_note (l : List UInt8) : ∀ (f at_ : Nat) (acc : List Tok), l.length < f →
    ∃ f', (l.drop (runL notFeedB l)).length < f' ∧ scanR f at_ true l acc = scanR f' (at_ + runL notFeedB l) true (l.drop (runL notFeedB l)) acc := by
  induction l with
  | nil => intro f at_ acc hf; exact ⟨f, by simpa [runL] using hf, by simp [runL]⟩
  | cons c l ih =>
    intro f at_ acc hf
    obtain ⟨f, rfl⟩ : ∃ m, f = m + 1 := ⟨f - 1, by simp at hf; omega⟩
    by_cases hc : notFeedB c.toNat = true
    · have e1 : runL notFeedB (c :: l) = runL notFeedB l + 1 := by unfold runL; rw [List.takeWhile_cons, if_pos hc]; simp
      have hl : l.length < f := by simp at hf; omega
      have hnb : (c.toNat != 10) = true := by unfold notFeedB at hc; simp at hc ⊢; omega
      rw [e1, List.drop_succ_cons, scanR, if_pos (.inl rfl), hnb]
      obtain ⟨f', h1, h2⟩ := ih f (at_ + 1) acc hl
      exact ⟨f', h1, by rw [h2]; congr 1; omega⟩
    · have e1 : runL notFeedB (c :: l) = 0 := by unfold runL; rw [List.takeWhile_cons, if_neg hc]; simp
      rw [e1]
      exact ⟨f + 1, by simpa using hf, by simp⟩

theorem drop_run (p : Int → Bool) (l : List UInt8) : l.drop (runL p l) = [] ∨ ∃ c r, l.drop (runL p l) = c :: r ∧ p c.toNat = false := by
  induction l with
  | nil => left; simp
  | cons c l ih =>
    by_cases hc : p c.toNat = true
    · have e1 : runL p (c :: l) = runL p l + 1 := by unfold runL; rw [List.takeWhile_cons, if_pos hc]; simp
      rw [e1, List.drop_succ_cons]
      exact ih
    · have e1 : runL p (c :: l) = 0 := by unfold runL; rw [List.takeWhile_cons, if_neg hc]; simp
      right
      exact ⟨c, l, by rw [e1]; rfl, by simpa using hc⟩

theorem scanR_scan (m : Nat) : ∀ (l : List UInt8) (f f' at_ : Nat) (acc : List Tok), l.length ≤ m → l.length < f → l.length < f' →
    scanR f' at_ false l acc = scan f at_ l acc := by
  induction m with
  | zero =>
    intro l f f' at_ acc hm hf hf'
    obtain rfl : l = [] := List.length_eq_zero_iff.1 (by omega)
    obtain ⟨f, rfl⟩ : ∃ m, f = m + 1 := ⟨f - 1, by omega⟩
    obtain ⟨f', rfl⟩ : ∃ m, f' = m + 1 := ⟨f' - 1, by omega⟩
    rfl
  | succ m ih =>
    intro l f f' at_ acc hm hf hf'
    obtain ⟨f, rfl⟩ : ∃ m, f = m + 1 := ⟨f - 1, by omega⟩
    obtain ⟨f', rfl⟩ : ∃ m, f' = m + 1 := ⟨f' - 1, by omega⟩
    cases l with
    | nil => rfl
    | cons c l =>
      simp only [List.length_cons] at hm hf hf'
      by_cases h35 : c.toNat = 35
      · have hg : gapL (c :: l) = runL notFeedB (c :: l) := by simp [gapL, h35]
        have hnf : notFeedB c.toNat = true := by simp [notFeedB, h35]
        have e1 : runL notFeedB (c :: l) = runL notFeedB l + 1 := by unfold runL; rw [List.takeWhile_cons, if_pos hnf]; simp
        rw [scanR, if_pos (.inr h35), scan, if_pos (by rw [hg, e1]; omega), hg, e1, List.drop_succ_cons]
        rw [show (c.toNat != 10) = true by simp [h35]]
        obtain ⟨f2, h1, h2⟩ := scanR_note l f' (at_ + 1) acc (by omega)
        rw [h2, show at_ + (runL notFeedB l + 1) = at_ + 1 + runL notFeedB l by omega]
        rcases drop_run notFeedB l with hd | ⟨d, r, hd, hp⟩
        · rw [hd]
          obtain ⟨f2, rfl⟩ : ∃ m, f2 = m + 1 := ⟨f2 - 1, by omega⟩
          obtain ⟨f, rfl⟩ : ∃ m, f = m + 1 := ⟨f - 1, by omega⟩
          rfl
        · have hlen : (l.drop (runL notFeedB l)).length ≤ l.length := by simp
          rw [hd] at h1 hlen ⊢
          simp only [List.length_cons] at h1 hlen
          obtain ⟨f2, rfl⟩ : ∃ m, f2 = m + 1 := ⟨f2 - 1, by omega⟩
          obtain ⟨f, rfl⟩ : ∃ m, f = m + 1 := ⟨f - 1, by omega⟩
          have h10 : d.toNat = 10 := by simp [notFeedB] at hp; omega
          have hg2 : gapL (d :: r) = 1 := by simp [gapL, h10]
          rw [scanR, if_pos (.inl rfl), scan, hg2, if_pos (by omega), show (d.toNat != 10) = false by simp [h10]]
          exact ih r f f2 _ acc (by omega) (by omega) (by omega)
      · by_cases hsp : c.toNat = 32 ∨ c.toNat = 10
        · have hg : gapL (c :: l) = 1 := by simp [gapL, hsp]
          rw [scanR, if_neg (by simp [h35]), if_pos hsp, scan, hg, if_pos (by omega)]
          exact ih l f f' _ acc (by omega) (by omega) (by omega)
        · have hg : gapL (c :: l) = 0 := by simp [gapL, hsp, h35]
          rw [scanR, if_neg (by simp [h35]), if_neg hsp, scan, hg, if_neg (by omega)]
          cases htk : tokenL (c :: l) with
          | none => rfl
          | some x =>
            obtain ⟨t, n⟩ := x
            have hn := tokenL_some htk
            have hlen : ((c :: l).drop n).length ≤ l.length := by simp; omega
            exact ih _ f f' _ _ (by omega) (by omega) (by omega)

theorem tokensR_eq (l : List UInt8) : tokensR l = tokensL l := by
  unfold tokensR tokensL
  rw [scanR_scan l.length l (l.length + 1) (l.length + 1) 0 [] (Nat.le_refl _) (by omega) (by omega)]
end Go.Proofs.YtniejidekflmiaaGreatDoor
