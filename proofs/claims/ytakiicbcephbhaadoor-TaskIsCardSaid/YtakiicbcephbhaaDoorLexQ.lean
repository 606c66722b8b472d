/- Plain: where a text's tokens lie. -/
import Derived.Test.YtakiicbcephbhaaDoorLexM
import Derived.Test.YtakiicbcephbhaaDoorLexP
import Init
namespace Go.Proofs.YtakiicbcephbhaaDoor

theorem scan_place (f : Nat) : ∀ (at_ : Nat) (l : List UInt8) (acc : List Tok), l.length < f → (∀ t ∈ acc, 0 ≤ t.at_ ∧ t.at_ ≤ at_) → (scan f at_ l acc).2.2 = 0 →
    (scan f at_ l acc).2.1 = at_ + l.length ∧ ∀ t ∈ (scan f at_ l acc).1, 0 ≤ t.at_ ∧ t.at_ ≤ ((at_ + l.length : Nat) : Int) := by
  induction f with
  | zero => intro at_ l acc h; simp at h
  | succ f ih =>
    intro at_ l acc h hacc hok
    cases l with
    | nil =>
      refine ⟨rfl, fun t ht => ?_⟩
      simp only [scan, List.mem_append, List.mem_singleton] at ht
      rcases ht with ht | rfl
      · simpa using hacc t ht
      · simp
    | cons c l =>
      have h' : l.length < f := by simp at h; omega
      by_cases hg : 0 < gapL (c :: l)
      · have e : scan (f + 1) at_ (c :: l) acc = scan f (at_ + gapL (c :: l)) ((c :: l).drop (gapL (c :: l))) acc := by rw [scan, if_pos hg]
        rw [e] at hok ⊢
        have hle := gapL_le (c :: l)
        generalize gapL (c :: l) = n at hg hok hle ⊢
        have hd : ((c :: l).drop n).length = (c :: l).length - n := List.length_drop
        have := ih (at_ + n) ((c :: l).drop n) acc (by rw [hd]; simp; omega) (fun t ht => ⟨(hacc t ht).1, by have := (hacc t ht).2; omega⟩) hok
        rw [hd, show at_ + n + ((c :: l).length - n) = at_ + (c :: l).length by omega] at this
        exact this
      · cases ht : tokenL (c :: l) with
        | none =>
          rw [scan, if_neg hg, ht] at hok
          simp at hok
        | some x =>
          obtain ⟨t, n⟩ := x
          have hn := tokenL_some ht
          have e : scan (f + 1) at_ (c :: l) acc = scan f (at_ + n) ((c :: l).drop n) (acc ++ [{ t with at_ := at_ }]) := by rw [scan, if_neg hg, ht]
          rw [e] at hok ⊢
          have hd : ((c :: l).drop n).length = (c :: l).length - n := List.length_drop
          have := ih (at_ + n) ((c :: l).drop n) _ (by rw [hd]; simp; omega) (fun u hu => by
            rw [List.mem_append, List.mem_singleton] at hu
            rcases hu with hu | rfl
            · exact ⟨(hacc u hu).1, by have := (hacc u hu).2; omega⟩
            · simp; omega) hok
          rw [hd, show at_ + n + ((c :: l).length - n) = at_ + (c :: l).length by omega] at this
          exact this
theorem tokens_place {l : List UInt8} {ts : List Tok} {p : Nat} (h : tokensL l = (ts, p, 0)) : p = l.length ∧ ∀ t ∈ ts, 0 ≤ t.at_ ∧ t.at_ ≤ (l.length : Int) := by
  unfold tokensL at h
  by_cases hl : l.length > 4000
  · rw [if_pos hl] at h; simp at h
  · rw [if_neg hl] at h
    have := scan_place (l.length + 1) 0 l [] (by omega) (by simp) (by rw [h])
    rw [h] at this
    simpa using this
theorem scan_count (f : Nat) : ∀ (at_ : Nat) (l : List UInt8) (acc : List Tok), l.length < f → (scan f at_ l acc).1.length ≤ acc.length + l.length + 1 := by
  induction f with
  | zero => intro at_ l acc h; simp at h
  | succ f ih =>
    intro at_ l acc h
    cases l with
    | nil => simp [scan]
    | cons c l =>
      have h' : l.length < f := by simp at h; omega
      by_cases hg : 0 < gapL (c :: l)
      · rw [scan, if_pos hg]
        have hle := gapL_le (c :: l)
        have hd : ((c :: l).drop (gapL (c :: l))).length = (c :: l).length - gapL (c :: l) := List.length_drop
        have := ih (at_ + gapL (c :: l)) ((c :: l).drop (gapL (c :: l))) acc (by rw [hd]; simp; omega)
        omega
      · cases ht : tokenL (c :: l) with
        | none =>
          rw [scan, if_neg hg, ht]
          simp
        | some x =>
          obtain ⟨t, n⟩ := x
          have hn := tokenL_some ht
          rw [scan, if_neg hg, ht]
          have hd : ((c :: l).drop n).length = (c :: l).length - n := List.length_drop
          have := ih (at_ + n) ((c :: l).drop n) (acc ++ [{ t with at_ := at_ }]) (by rw [hd]; simp; omega)
          rw [List.length_append, List.length_singleton] at this
          dsimp only
          omega
theorem tokens_count {l : List UInt8} {ts : List Tok} {p : Nat} {e : Int} (h : tokensL l = (ts, p, e)) : ts.length ≤ l.length + 1 := by
  unfold tokensL at h
  by_cases hl : l.length > 4000
  · rw [if_pos hl] at h
    obtain ⟨rfl, _⟩ := Prod.mk.inj h
    simp
  · rw [if_neg hl] at h
    have := scan_count (l.length + 1) 0 l [] (by omega)
    rw [h] at this
    simpa using this
end Go.Proofs.YtakiicbcephbhaaDoor
