/- Plain: names; what a task is. -/
import Derived.Test.YtniejidekflmiaaGreatDoorLexM
import Init
namespace Go.Proofs.YtniejidekflmiaaGreatDoor

def nameB (l : List UInt8) : Bool := match tokenL l with
  | some (t, n) => decide (n = l.length) && (t.kind == 1)
  | none => false

theorem take_run (p : Int → Bool) (l : List UInt8) : l.take (runL p l) = l.takeWhile (fun b => p b.toNat) := by
  unfold runL
  exact (List.prefix_iff_eq_take.1 (List.takeWhile_prefix _)).symm
theorem run_take (p : Int → Bool) (l : List UInt8) : runL p (l.take (runL p l)) = runL p l := by
  rw [take_run]
  unfold runL
  induction l with
  | nil => rfl
  | cons c l ih =>
    rw [List.takeWhile_cons]
    split
    · rw [List.takeWhile_cons]
      simp_all
    · rfl
/-- what a name's token says is a name -/
theorem token_name {l : List UInt8} {t : Tok} {n : Nat} (h : tokenL l = some (t, n)) (hk : t.kind = 1) : nameB t.text.data.toList = true ∧ t.text = ⟨(l.take n).toArray⟩ ∧ t.n = 0 ∧ t.at_ = 0 := by
  cases l with
  | nil => simp [tokenL] at h
  | cons c l =>
    by_cases hl : isLetterB c.toNat = true
    · have hr := run_take isMoreB (c :: l)
      have hpos : 1 ≤ runL isMoreB (c :: l) := runL_pos (by simp [isMoreB, hl])
      have hle := runL_le isMoreB (c :: l)
      simp only [tokenL, hl, if_true] at h
      generalize hn : runL isMoreB (c :: l) = m at h hr hpos hle
      by_cases h12 : m ≤ 12
      · rw [if_pos h12] at h
        obtain ⟨rfl, rfl⟩ := Prod.mk.inj (Option.some.inj h)
        refine ⟨?_, rfl, rfl, rfl⟩
        dsimp only at hk ⊢
        obtain ⟨k, rfl⟩ : ∃ k, m = k + 1 := ⟨m - 1, by omega⟩
        have hw : wordsL.contains ((c :: l).take (k + 1)) = false := by
          cases hw : wordsL.contains ((c :: l).take (k + 1)) with
          | false => rfl
          | true => rw [hw] at hk; simp at hk
        have hlen : ((c :: l).take (k + 1)).length = k + 1 := by rw [List.length_take]; omega
        rw [List.take_succ_cons] at hr hw hlen ⊢
        unfold nameB
        simp only [tokenL, hl, if_true, hr, if_pos h12]
        have ht : (c :: l.take k).take (k + 1) = c :: l.take k := List.take_of_length_le (by omega)
        rw [ht, hw]
        simp only [hlen]
        simp
      · rw [if_neg h12] at h
        simp at h
    · exfalso
      simp only [tokenL, Bool.not_eq_true] at h hl
      simp only [hl] at h
      revert h
      split
      · intro h; contradiction
      · split
        · split
          · intro h
            obtain ⟨rfl, rfl⟩ := Prod.mk.inj (Option.some.inj h)
            simp at hk
          · intro h; simp at h
        · split
          · intro h
            obtain ⟨rfl, rfl⟩ := Prod.mk.inj (Option.some.inj h)
            simp at hk
          · intro h; simp at h
theorem scan_names (f : Nat) : ∀ (at_ : Nat) (l : List UInt8) (acc : List Tok), (∀ t ∈ acc, t.kind = 1 → nameB t.text.data.toList = true) → ∀ t ∈ (scan f at_ l acc).1, t.kind = 1 → nameB t.text.data.toList = true := by
  induction f with
  | zero => intro at_ l acc hacc t ht; simp [scan] at ht
  | succ f ih =>
    intro at_ l acc hacc t ht hk
    cases l with
    | nil =>
      simp only [scan, List.mem_append, List.mem_singleton] at ht
      rcases ht with ht | rfl
      · exact hacc t ht hk
      · simp at hk
    | cons c l =>
      by_cases hg : 0 < gapL (c :: l)
      · rw [scan, if_pos hg] at ht
        exact ih _ _ _ hacc t ht hk
      · cases hx : tokenL (c :: l) with
        | none => rw [scan, if_neg hg, hx] at ht; simp at ht
        | some x =>
          obtain ⟨u, n⟩ := x
          rw [scan, if_neg hg, hx] at ht
          refine ih _ _ _ (fun v hv hvk => ?_) t ht hk
          rw [List.mem_append, List.mem_singleton] at hv
          rcases hv with hv | rfl
          · exact hacc v hv hvk
          · exact (token_name hx hvk).1
theorem name_of_tokens {l : List UInt8} {ts : List Tok} {p : Nat} (h : tokensL l = (ts, p, 0)) (t : Tok) (ht : t ∈ ts) (hk : t.kind = 1) : nameB t.text.data.toList = true := by
  unfold tokensL at h
  by_cases hl : l.length > 4000
  · rw [if_pos hl] at h; simp at h
  · rw [if_neg hl] at h
    refine scan_names (l.length + 1) 0 l [] (by simp) t ?_ hk
    rw [h]
    exact ht
theorem letter_name {c : UInt8} {l : List UInt8} (h : nameB (c :: l) = true) : isLetterB c.toNat = true := by
  cases hl : isLetterB c.toNat with
  | true => rfl
  | false =>
    exfalso
    unfold nameB at h
    cases hx : tokenL (c :: l) with
    | none => rw [hx] at h; simp at h
    | some x =>
      obtain ⟨t, n⟩ := x
      rw [hx] at h
      simp only [Bool.and_eq_true, beq_iff_eq] at h
      have hk := h.2
      simp only [tokenL, hl, Bool.false_eq_true, if_false] at hx
      split at hx
      · split at hx
        · simp only [Option.some.injEq, Prod.mk.injEq] at hx
          obtain ⟨rfl, _⟩ := hx
          simp at hk
        · cases hx
      · split at hx
        · simp only [Option.some.injEq, Prod.mk.injEq] at hx
          obtain ⟨rfl, _⟩ := hx
          simp at hk
        · cases hx
theorem tokens_of_name {l : List UInt8} (h : nameB l = true) : tokensL l = ([⟨1, ⟨l.toArray⟩, 0, 0⟩, ⟨4, ⟨#[]⟩, 0, l.length⟩], l.length, 0) := by
  cases l with
  | nil => simp [nameB, tokenL] at h
  | cons c l =>
    have hl := letter_name h
    have hg : gapL (c :: l) = 0 := by
      have : c.toNat ≠ 32 ∧ c.toNat ≠ 10 ∧ c.toNat ≠ 35 := by simp [isLetterB] at hl; omega
      simp [gapL, this]
    unfold nameB at h
    cases hx : tokenL (c :: l) with
    | none => rw [hx] at h; simp at h
    | some x =>
      obtain ⟨t, n⟩ := x
      rw [hx] at h
      simp only [Bool.and_eq_true, decide_eq_true_eq, beq_iff_eq] at h
      obtain ⟨rfl, hk⟩ := h
      obtain ⟨_, h1, h2, h3⟩ := token_name hx hk
      have h12 : (c :: l).length ≤ 12 := by
        have := hx
        simp only [tokenL, hl, if_true] at this
        split at this
        · rename_i h; have h4 := (Prod.mk.inj (Option.some.inj this)).2; omega
        · simp at this
      unfold tokensL
      rw [if_neg (by omega), scan, if_neg (by omega), hx]
      obtain ⟨k, tx, m, a⟩ := t
      dsimp only at hk h1 h2 h3 ⊢
      subst hk h1 h2 h3
      rw [List.take_of_length_le (Nat.le_refl _), List.drop_of_length_le (Nat.le_refl _), List.length_cons, scan]
      simp
theorem isName_spec {l : List UInt8} {ts : List Tok} {p : Nat} (h : tokensL l = (ts, p, 0)) (hl : ts.length = 2) : ∃ a b, ts = [a, b] ∧ (nameB l = (decide (a.kind = 1) && decide (a.text.data.toList = l))) := by
  obtain ⟨a, b, rfl⟩ : ∃ a b, ts = [a, b] := by
    match ts, hl with
    | [a, b], _ => exact ⟨a, b, rfl⟩
  refine ⟨a, b, rfl, ?_⟩
  rw [Bool.eq_iff_iff]
  simp only [Bool.and_eq_true, decide_eq_true_eq]
  constructor
  · intro hn
    rw [tokens_of_name hn] at h
    simp only [Prod.mk.injEq, List.cons.injEq] at h
    obtain ⟨⟨rfl, _⟩, _⟩ := h
    exact ⟨rfl, rfl⟩
  · rintro ⟨h1, h2⟩
    rw [← h2]
    exact name_of_tokens h a (by simp) h1
theorem isName_not {l : List UInt8} {ts : List Tok} {p : Nat} {e : Int} (h : tokensL l = (ts, p, e)) (hl : ¬ (e = 0 ∧ ts.length = 2)) : nameB l = false := by
  cases hn : nameB l with
  | false => rfl
  | true =>
    exfalso
    rw [tokens_of_name hn] at h
    simp only [Prod.mk.injEq] at h
    obtain ⟨rfl, _, rfl⟩ := h
    exact hl ⟨rfl, rfl⟩
end Go.Proofs.YtniejidekflmiaaGreatDoor
