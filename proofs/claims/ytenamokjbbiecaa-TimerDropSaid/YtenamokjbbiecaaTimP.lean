/- Plain: a timer as a rising list. -/
import Init
namespace Go.Proofs.Ytenamokjbbiecaa
def SortP (l : List (Int × Int)) : Prop := l.Pairwise fun a b => a.1 < b.1
/-- f as a rising list -/
def Agr2 (f : Int → Option Int) (l : List (Int × Int)) : Prop := SortP l ∧ ∀ x m, f x = some m ↔ (x, m) ∈ l
theorem sorted_ext : ∀ {a b : List Int}, a.Pairwise (· < ·) → b.Pairwise (· < ·) → (∀ x, x ∈ a ↔ x ∈ b) → a = b
  | [], [], _, _, _ => rfl
  | [], y :: b, _, _, h => by have := (h y).2 (by simp); cases this
  | x :: a, [], _, _, h => by have := (h x).1 (by simp); cases this
  | x :: a, y :: b, ha, hb, h => by
    rw [List.pairwise_cons] at ha hb
    have e : x = y := by
      have h1 := (h x).1 (by simp)
      have h2 := (h y).2 (by simp)
      rcases List.mem_cons.1 h1 with h1 | h1
      · exact h1
      · rcases List.mem_cons.1 h2 with h2 | h2
        · exact h2.symm
        · have := ha.1 _ h2; have := hb.1 _ h1; omega
    subst e
    rw [sorted_ext ha.2 hb.2 (fun z => ?_)]
    have hz := h z
    constructor
    · intro hm
      rcases List.mem_cons.1 (hz.1 (List.mem_cons_of_mem _ hm)) with e | e
      · subst e; have := ha.1 _ hm; omega
      · exact e
    · intro hm
      rcases List.mem_cons.1 (hz.2 (List.mem_cons_of_mem _ hm)) with e | e
      · subst e; have := hb.1 _ hm; omega
      · exact e
theorem SortP.keys {l : List (Int × Int)} (h : SortP l) : (l.map (·.1)).Pairwise (· < ·) := by
  rw [List.pairwise_map]
  exact h
theorem SortP.inj {l : List (Int × Int)} (h : SortP l) {x m n : Int} (h1 : (x, m) ∈ l) (h2 : (x, n) ∈ l) : m = n := by
  induction l with
  | nil => cases h1
  | cons p l ih =>
    unfold SortP at h
    rw [List.pairwise_cons] at h
    rcases List.mem_cons.1 h1 with e1 | e1 <;> rcases List.mem_cons.1 h2 with e2 | e2
    · rw [← e1] at e2; injection e2 with _ e2; exact e2.symm
    · have := h.1 _ e2; rw [← e1] at this; dsimp only at this; omega
    · have := h.1 _ e1; rw [← e2] at this; dsimp only at this; omega
    · exact ih h.2 e1 e2
theorem Agr2.none_iff {f : Int → Option Int} {l : List (Int × Int)} (h : Agr2 f l) (x : Int) : f x = none ↔ ∀ p ∈ l, p.1 ≠ x := by
  constructor
  · intro hf p hp e
    have := (h.2 x p.2).2 (by rw [← e]; exact hp)
    rw [hf] at this; cases this
  · intro hn
    cases hf : f x with
    | none => rfl
    | some m => exact absurd rfl (hn _ ((h.2 x m).1 hf))
def insI : List (Int × Int) → Int → Nat
  | [], _ => 0
  | p :: l, id => if p.1 < id then insI l id + 1 else 0
def addL (l : List (Int × Int)) (id a : Int) : List (Int × Int) := l.take (insI l id) ++ (id, a) :: l.drop (insI l id)
theorem ins_le : ∀ (l : List (Int × Int)) (id : Int), insI l id ≤ l.length
  | [], _ => Nat.le_refl _
  | p :: l, id => by
    have := ins_le l id
    unfold insI
    split <;> simp <;> omega
theorem take_lt : ∀ (l : List (Int × Int)) (id : Int), ∀ p ∈ l.take (insI l id), p.1 < id
  | [], _ => fun p h => by simp at h
  | q :: l, id => fun p h => by
    unfold insI at h
    split at h
    · rename_i hq
      rw [List.take_succ_cons] at h
      rcases List.mem_cons.1 h with rfl | h
      · exact hq
      · exact take_lt l id p h
    · simp at h
theorem ins_lt {l : List (Int × Int)} {id : Int} {k : Nat} (hk : k < insI l id) : ∃ h : k < l.length, (l[k]).1 < id := by
  have hle := ins_le l id
  refine ⟨by omega, take_lt l id _ ?_⟩
  have h1 : k < (l.take (insI l id)).length := by rw [List.length_take]; omega
  have h2 : (l.take (insI l id))[k] = l[k]'(by omega) := List.getElem_take
  rw [← h2]
  exact List.getElem_mem h1
theorem ins_at : ∀ {l : List (Int × Int)} {id : Int} (h : insI l id < l.length), ¬ (l[insI l id]).1 < id
  | [], _, h => by simp at h
  | q :: l, id, h => by
    by_cases hq : q.1 < id
    · have e : insI (q :: l) id = insI l id + 1 := by rw [insI, if_pos hq]
      have h2 : insI l id < l.length := by rw [e] at h; simpa using h
      have := ins_at h2
      simp only [e, List.getElem_cons_succ]
      exact this
    · have e : insI (q :: l) id = 0 := by rw [insI, if_neg hq]
      simp only [e, List.getElem_cons_zero]
      exact hq
theorem ins_ge {l : List (Int × Int)} (hs : SortP l) {id : Int} (hn : ∀ p ∈ l, p.1 ≠ id) : ∀ p ∈ l.drop (insI l id), id < p.1 := by
  intro p hp
  obtain ⟨j, hj, rfl⟩ := List.mem_iff_getElem.1 hp
  rw [List.length_drop] at hj
  rw [List.getElem_drop]
  have h1 := ins_at (l := l) (id := id) (by omega)
  have h2 := hn _ (List.getElem_mem (show insI l id < l.length by omega))
  rcases Nat.eq_zero_or_pos j with rfl | hj0
  · show id < (l[insI l id + 0]).1
    simp only [Nat.add_zero]
    omega
  · have := List.pairwise_iff_getElem.1 hs (insI l id) (insI l id + j) (by omega) (by omega) (by omega)
    omega
theorem Agr2.add {f : Int → Option Int} {l : List (Int × Int)} (h : Agr2 f l) {id : Int} (hf : f id = none) (a : Int) : Agr2 (fun y => if y = id then some a else f y) (addL l id a) := by
  have hn := (h.none_iff id).1 hf
  refine ⟨?_, fun x m => ?_⟩
  · unfold SortP addL
    rw [List.pairwise_append, List.pairwise_cons]
    refine ⟨List.Pairwise.sublist (List.take_sublist _ _) h.1, ⟨fun p hp => ins_ge h.1 hn p hp, List.Pairwise.sublist (List.drop_sublist _ _) h.1⟩, fun p hp q hq => ?_⟩
    have h1 : p.1 < id := take_lt l id p hp
    rcases List.mem_cons.1 hq with rfl | hq
    · exact h1
    · have := ins_ge h.1 hn q hq
      omega
  · have hm : (x, m) ∈ addL l id a ↔ (x, m) = (id, a) ∨ (x, m) ∈ l := by
      unfold addL
      conv => rhs; rw [← List.take_append_drop (insI l id) l]
      simp only [List.mem_append, List.mem_cons]
      constructor
      · rintro (h | h | h)
        · exact .inr (.inl h)
        · exact .inl h
        · exact .inr (.inr h)
      · rintro (h | h | h)
        · exact .inr (.inl h)
        · exact .inl h
        · exact .inr (.inr h)
    rw [hm, ← h.2]
    dsimp only
    constructor
    · intro e
      split at e
      · rename_i e1; cases e; exact .inl (by rw [e1])
      · exact .inr e
    · rintro (e | e)
      · cases e; simp
      · rw [if_neg ?_]
        · exact e
        · rintro rfl; rw [hf] at e; cases e
def dropL (l : List (Int × Int)) (id : Int) : List (Int × Int) := l.filter fun p => !decide (p.1 = id)
theorem Agr2.drop {f : Int → Option Int} {l : List (Int × Int)} (h : Agr2 f l) (id : Int) : Agr2 (fun y => if y = id then none else f y) (dropL l id) := by
  refine ⟨List.Pairwise.sublist List.filter_sublist h.1, fun x m => ?_⟩
  unfold dropL
  rw [List.mem_filter, ← h.2]
  dsimp only
  split
  · rename_i e; simp [e]
  · rename_i e; simp [e]
theorem drop_at {l : List (Int × Int)} (hs : SortP l) {i : Nat} (hi : i < l.length) : dropL l (l[i]).1 = l.take i ++ l.drop (i + 1) := by
  have hp := List.pairwise_iff_getElem.1 hs
  have e : l = l.take i ++ l[i] :: l.drop (i + 1) := by rw [List.getElem_cons_drop, List.take_append_drop]
  unfold dropL
  conv => lhs; arg 2; rw [e]
  rw [List.filter_append, List.filter_cons]
  simp only [decide_true, Bool.not_true, Bool.false_eq_true, if_false]
  congr 1
  · rw [List.filter_eq_self]
    intro p hp2
    obtain ⟨j, hj, rfl⟩ := List.mem_iff_getElem.1 hp2
    rw [List.length_take] at hj
    rw [List.getElem_take]
    have := hp j i (by omega) hi (by omega)
    simp; omega
  · rw [List.filter_eq_self]
    intro p hp2
    obtain ⟨j, hj, rfl⟩ := List.mem_iff_getElem.1 hp2
    rw [List.length_drop] at hj
    rw [List.getElem_drop]
    have := hp i (i + 1 + j) hi (by omega) (by omega)
    simp; omega
theorem drop_none {l : List (Int × Int)} {id : Int} (h : ∀ p ∈ l, p.1 ≠ id) : dropL l id = l := by
  unfold dropL
  rw [List.filter_eq_self]
  intro p hp
  simpa using h p hp
def decL (l : List (Int × Int)) : List (Int × Int) := l.map fun p => (p.1, p.2 - 1)
def outL (l : List (Int × Int)) : List Int := (l.filter fun p => decide (p.2 = 0)).map (·.1)
def tickL (l : List (Int × Int)) : List (Int × Int) := (outL l).foldl dropL (decL l)
theorem fold_drop : ∀ (out : List Int) (l : List (Int × Int)) (p : Int × Int), p ∈ out.foldl dropL l ↔ p ∈ l ∧ p.1 ∉ out
  | [], l, p => by simp
  | x :: out, l, p => by
    rw [List.foldl_cons, fold_drop out, dropL, List.mem_filter, List.mem_cons]
    simp only [Bool.not_eq_true', decide_eq_false_iff_not, not_or]
    constructor
    · rintro ⟨⟨a, b⟩, c⟩; exact ⟨a, b, c⟩
    · rintro ⟨a, b, c⟩; exact ⟨⟨a, b⟩, c⟩
theorem fold_sort : ∀ (out : List Int) (l : List (Int × Int)), SortP l → SortP (out.foldl dropL l)
  | [], _, h => h
  | _ :: out, _, h => fold_sort out _ (List.Pairwise.sublist List.filter_sublist h)
theorem dec_sort {l : List (Int × Int)} (h : SortP l) : SortP (decL l) := by
  unfold SortP decL
  rw [List.pairwise_map]
  exact h
theorem mem_out {l : List (Int × Int)} {x : Int} : x ∈ outL l ↔ (x, 0) ∈ l := by
  unfold outL
  simp only [List.mem_map, List.mem_filter, decide_eq_true_eq]
  constructor
  · rintro ⟨⟨a, b⟩, ⟨h1, h2⟩, h3⟩; dsimp only at *; subst h2 h3; exact h1
  · intro h; exact ⟨_, ⟨h, rfl⟩, rfl⟩
theorem out_sort {l : List (Int × Int)} (h : SortP l) : (outL l).Pairwise (· < ·) := by
  unfold outL
  rw [List.pairwise_map]
  exact List.Pairwise.sublist List.filter_sublist h
theorem Agr2.tick {f : Int → Option Int} {l : List (Int × Int)} (h : Agr2 f l) (g : Int → Option Int) (hg : ∀ x, g x = match f x with | none => none | some m => if m = 0 then none else some (m - 1)) : Agr2 g (tickL l) := by
  refine ⟨fold_sort _ _ (dec_sort h.1), fun x m => ?_⟩
  unfold tickL
  rw [fold_drop, hg, mem_out, ← h.2]
  unfold decL
  rw [List.mem_map]
  cases hf : f x with
  | none =>
    constructor
    · intro e; cases e
    · rintro ⟨⟨p, hp, e⟩, _⟩
      have := (h.2 p.1 p.2).2 hp
      injection e with e1 e2
      rw [e1, hf] at this
      cases this
  | some k =>
    dsimp only
    constructor
    · intro e
      split at e
      · cases e
      · rename_i h0
        injection e with e
        refine ⟨⟨(x, k), (h.2 x k).1 hf, by simp [e]⟩, ?_⟩
        intro e2
        injection e2 with e2
        exact h0 e2
    · rintro ⟨⟨p, hp, e⟩, hn⟩
      injection e with e1 e2
      have h2 := (h.2 p.1 p.2).2 hp
      rw [e1, hf] at h2
      injection h2 with h2
      rw [if_neg (fun e => hn (by rw [e]))]
      rw [h2, e2]
/-- those that are due, either way -/
theorem due_out {f : Int → Option Int} {l : List (Int × Int)} (h : Agr2 f l) {ids : List Int} (h1 : ids.Pairwise (· < ·)) (h2 : ∀ x, x ∈ ids ↔ f x = some 0) : ids = outL l :=
  sorted_ext h1 (out_sort h.1) fun x => by rw [h2, mem_out, h.2]
theorem Agr2.start : Agr2 (fun _ => none) [] := ⟨List.Pairwise.nil, fun _ _ => ⟨fun h => (by cases h), fun h => (by cases h)⟩⟩
end Go.Proofs.Ytenamokjbbiecaa
