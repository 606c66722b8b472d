/- Plain: notes ahead, texts one behind the other, ends. -/
import Derived.Test.YtakiicbcephbhaaDoorLexM
import Init
namespace Go.Proofs.YtakiicbcephbhaaDoor

def shiftT (d : Nat) (t : Tok) : Tok := { t with at_ := t.at_ + d }
/-- moved by d -/
theorem scan_shift (d : Nat) : ∀ (f at_ : Nat) (l : List UInt8) (acc acc' : List Tok), l.length < f →
    (scan f (at_ + d) l (acc' ++ acc.map (shiftT d))) = if (scan f at_ l acc).2.2 = 0 then (acc' ++ (scan f at_ l acc).1.map (shiftT d), (scan f at_ l acc).2.1 + d, 0) else ([], (scan f at_ l acc).2.1 + d, (scan f at_ l acc).2.2) := by
  intro f
  induction f with
  | zero => intro at_ l acc acc' h; simp at h
  | succ f ih =>
    intro at_ l acc acc' h
    cases l with
    | nil => simp [scan, shiftT]
    | cons c l =>
      by_cases hg : 0 < gapL (c :: l)
      · rw [scan, if_pos hg, scan, if_pos hg]
        have := gapL_le (c :: l)
        have h2 := ih (at_ + gapL (c :: l)) ((c :: l).drop (gapL (c :: l))) acc acc' (by simp only [List.length_drop]; simp only [List.length_cons] at *; omega)
        rw [← h2]
        congr 1
        omega
      · rw [scan, if_neg hg, scan, if_neg hg]
        cases ht : tokenL (c :: l) with
        | none => simp
        | some x =>
          obtain ⟨t, n⟩ := x
          have hn := tokenL_some ht
          have h2 := ih (at_ + n) ((c :: l).drop n) (acc ++ [{ t with at_ := at_ }]) acc' (by simp only [List.length_drop]; simp only [List.length_cons] at *; omega)
          dsimp only
          rw [← h2]
          congr 1
          · omega
          · simp [shiftT]

theorem runL_app (p : Int → Bool) (hp : p 10 = false) (l r : List UInt8) : runL p (l ++ 10 :: r) = runL p l := by
  unfold runL
  induction l with
  | nil =>
    have h : p (((10 : UInt8).toNat : Nat) : Int) = false := hp
    rw [List.nil_append, List.takeWhile_cons, h]
    rfl
  | cons c l ih =>
    simp only [List.cons_append, List.takeWhile_cons]
    split
    · simp only [List.length_cons]; omega
    · rfl

theorem gapL_app (c : UInt8) (l r : List UInt8) : gapL (c :: l ++ 10 :: r) = gapL (c :: l) := by
  simp only [List.cons_append, gapL]
  have := runL_app notFeedB (by decide) (c :: l) r
  simp only [List.cons_append] at this
  rw [this]
theorem tokenL_app (c : UInt8) (l r : List UInt8) : tokenL (c :: l ++ 10 :: r) = tokenL (c :: l) := by
  have h1 := runL_app isMoreB (by decide) (c :: l) r
  have h2 := runL_app isDigitB (by decide) (c :: l) r
  have t1 : (c :: l ++ 10 :: r).take (runL isMoreB (c :: l)) = (c :: l).take (runL isMoreB (c :: l)) := by rw [List.take_append_of_le_length (runL_le _ _)]
  have t2 : (c :: l ++ 10 :: r).take (runL isDigitB (c :: l)) = (c :: l).take (runL isDigitB (c :: l)) := by rw [List.take_append_of_le_length (runL_le _ _)]
  simp only [List.cons_append] at h1 h2 t1 t2
  simp only [List.cons_append, tokenL, h1, h2, t1, t2]

/-- of a text that is in order, a new row and another text behind it: the first one's tokens, then the other is read -/
theorem scan_app (f : Nat) : ∀ (at_ : Nat) (a b : List UInt8) (acc : List Tok) (g : Nat), a.length < f → a.length + b.length + 1 < g → (scan f at_ a acc).2.2 = 0 →
    ∃ (l : List Tok) (g' : Nat), (scan f at_ a acc).1 = l ++ [⟨4, ⟨#[]⟩, 0, ((at_ + a.length : Nat) : Int)⟩] ∧ b.length < g' ∧ scan g at_ (a ++ 10 :: b) acc = scan g' (at_ + a.length + 1) b l := by
  induction f with
  | zero => intro at_ a b acc g h; simp at h
  | succ f ih =>
    intro at_ a b acc g h hg hok
    obtain ⟨g, rfl⟩ : ∃ m, g = m + 1 := ⟨g - 1, by omega⟩
    cases a with
    | nil =>
      refine ⟨acc, g, by simp [scan], by simp at hg; omega, ?_⟩
      have h1 : gapL (10 :: b) = 1 := by simp [gapL]
      simp only [List.nil_append]
      rw [scan, h1, if_pos (by omega)]
      rfl
    | cons c a =>
      simp only [List.length_cons] at h hg
      by_cases hgap : 0 < gapL (c :: a)
      · have hle := gapL_le (c :: a)
        rw [scan, if_pos hgap] at hok ⊢
        have e : c :: a ++ 10 :: b = c :: (a ++ 10 :: b) := rfl
        have hd : (c :: (a ++ 10 :: b)).drop (gapL (c :: a)) = (c :: a).drop (gapL (c :: a)) ++ 10 :: b := by
          rw [← e, List.drop_append_of_le_length hle]
        obtain ⟨l, g', e1, e2, e3⟩ := ih (at_ + gapL (c :: a)) ((c :: a).drop (gapL (c :: a))) b acc g (by simp only [List.length_drop, List.length_cons]; omega) (by simp only [List.length_drop, List.length_cons]; omega) hok
        have hL : at_ + gapL (c :: a) + ((c :: a).drop (gapL (c :: a))).length = at_ + (c :: a).length := by rw [List.length_drop]; omega
        rw [hL] at e1 e3
        refine ⟨l, g', e1, e2, ?_⟩
        rw [e, scan, ← e, gapL_app, if_pos hgap, e, hd, e3]
      · rw [scan, if_neg hgap] at hok ⊢
        have e : c :: a ++ 10 :: b = c :: (a ++ 10 :: b) := rfl
        cases ht : tokenL (c :: a) with
        | none => rw [ht] at hok; simp at hok
        | some x =>
          obtain ⟨t, n⟩ := x
          have hn := tokenL_some ht
          rw [ht] at hok
          dsimp only at hok ⊢
          have hd : (c :: (a ++ 10 :: b)).drop n = (c :: a).drop n ++ 10 :: b := by
            rw [← e, List.drop_append_of_le_length hn.2]
          obtain ⟨l, g', e1, e2, e3⟩ := ih (at_ + n) ((c :: a).drop n) b _ g (by simp only [List.length_drop, List.length_cons]; omega) (by simp only [List.length_drop, List.length_cons]; omega) hok
          have hL : at_ + n + ((c :: a).drop n).length = at_ + (c :: a).length := by rw [List.length_drop]; omega
          rw [hL] at e1 e3
          refine ⟨l, g', e1, e2, ?_⟩
          rw [e, scan, ← e, gapL_app, if_neg hgap, tokenL_app, ht]
          dsimp only
          rw [e, hd, e3]

/-- the number of rounds does not matter -/
theorem scan_rounds (m : Nat) : ∀ (l : List UInt8) (f g at_ : Nat) (acc : List Tok), l.length ≤ m → l.length < f → l.length < g → scan f at_ l acc = scan g at_ l acc := by
  intro l f g at_ acc hm hf hg
  rw [← scanR_scan m l f (l.length + 1) at_ acc hm hf (by omega), ← scanR_scan m l g (l.length + 1) at_ acc hm hg (by omega)]

/-- LexJoin's words: the tokens of a, a new row, b -/
theorem tokens_join (a b : List UInt8) (l m : List Tok) (p q : Nat) (ha : tokensL a = (l, p, 0)) (hb : tokensL b = (m, q, 0)) (hlen : a.length + b.length ≤ 3000) :
    ∃ (l' : List Tok) (e : Tok) (r : Nat), l = l' ++ [e] ∧ tokensL (a ++ 10 :: b) = (l' ++ m.map (shiftT (a.length + 1)), r, 0) := by
  have e1 : scan (a.length + 1) 0 a [] = (l, p, 0) := by unfold tokensL at ha; rwa [if_neg (by omega)] at ha
  have e2 : scan (b.length + 1) 0 b [] = (m, q, 0) := by unfold tokensL at hb; rwa [if_neg (by omega)] at hb
  obtain ⟨l', g', h1, h2, h3⟩ := scan_app (a.length + 1) 0 a b [] ((a ++ 10 :: b).length + 1) (by omega) (by simp) (by rw [e1])
  rw [e1] at h1
  refine ⟨l', _, q + (a.length + 1), h1, ?_⟩
  unfold tokensL
  rw [if_neg (by simp; omega), h3, scan_rounds b.length b g' (b.length + 1) _ _ (Nat.le_refl _) h2 (by omega)]
  have h4 := scan_shift (a.length + 1) (b.length + 1) 0 b [] l' (by omega)
  rw [e2] at h4
  simp only [List.map_nil, List.append_nil, if_pos] at h4
  rw [show 0 + a.length + 1 = 0 + (a.length + 1) by omega, h4]

/-- LexNotes' words -/
theorem tokens_note (note s : List UInt8) (l : List Tok) (p : Nat) (h : tokensL s = (l, p, 0)) (hs : s.length ≤ 1000) (hn : note.length ≤ 100) (hf : ∀ c ∈ note, c.toNat ≠ 10) :
    tokensL (35 :: note ++ 10 :: s) = (l.map (shiftT (note.length + 2)), p + (note.length + 2), 0) := by
  have e1 : scan (s.length + 1) 0 s [] = (l, p, 0) := by unfold tokensL at h; rwa [if_neg (by omega)] at h
  have hr : ∀ x : List UInt8, (∀ c ∈ x, c.toNat ≠ 10) → runL notFeedB x = x.length := by
    intro x
    induction x with
    | nil => intro _; rfl
    | cons c x ih =>
      intro hx
      have hc : notFeedB c.toNat = true := by have := hx c (by simp); simp [notFeedB]; omega
      have := ih fun d hd => hx d (by simp [hd])
      unfold runL at this ⊢
      rw [List.takeWhile_cons, if_pos hc, List.length_cons, List.length_cons, this]
  have hne : ∀ c ∈ (35 :: note : List UInt8), c.toNat ≠ 10 := by
    intro c hc
    rcases List.mem_cons.1 hc with rfl | hc
    · decide
    · exact hf c hc
  have hg : gapL (35 :: note) = note.length + 1 := by
    have := hr (35 :: note) hne
    simp only [gapL]
    rw [this]
    simp
  have hok : scan (note.length + 2) 0 (35 :: note) [] = ([⟨4, ⟨#[]⟩, 0, ((note.length + 1 : Nat) : Int)⟩], note.length + 1, 0) := by
    rw [scan, hg, if_pos (by omega), List.drop_eq_nil_of_le (by simp)]
    simp [scan]
  obtain ⟨l', g', h1, h2, h3⟩ := scan_app (note.length + 2) 0 (35 :: note) s [] ((35 :: note ++ 10 :: s).length + 1) (by simp) (by simp; omega) (by rw [hok])
  have hl' : l' = [] := by
    have := congrArg List.length h1
    rw [hok] at this
    simp at this
    exact this
  subst hl'
  unfold tokensL
  rw [if_neg (by simp; omega), h3, scan_rounds s.length s g' (s.length + 1) _ _ (Nat.le_refl _) h2 (by omega)]
  have h4 := scan_shift (note.length + 2) (s.length + 1) 0 s [] [] (by omega)
  rw [e1] at h4
  simp only [List.map_nil, List.append_nil, List.nil_append, if_pos] at h4
  rw [show 0 + (35 :: note : List UInt8).length + 1 = 0 + (note.length + 2) by simp, h4]
end Go.Proofs.YtakiicbcephbhaaDoor
