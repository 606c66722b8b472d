/- Rows of loads, their sums, the least number that is its own sum: in plain Lean. -/
import Derived.Test.YtknfdjnbndfboaaDoorNumM
import Derived.WalkKit
namespace Go.Proofs.YtknfdjnbndfboaaDoor

def topB (n least : Int) : Bool := decide (least ≤ n) && decide (n ≤ 1000000)
theorem topB_eq (n least : Int) : (decide (least ≤ n) && decide (n ≤ 1000000)) = topB n least := rfl
theorem topB_iff {n least : Int} : topB n least = true ↔ least ≤ n ∧ n ≤ 1000000 := by unfold topB; simp
abbrev Ld := Int × Int
def termL (w : Int) (p : Ld) : Int := p.2 * ceilF w p.1
def sumL (base : Int) (l : List Ld) (w : Int) : Int := base + (l.map (termL w)).sum
theorem sumL_nil (base w : Int) : sumL base [] w = base := by simp [sumL]
theorem sumL_step (base : Int) (l : List Ld) (w : Int) {k : Nat} (h : k < l.length) : sumL base (l.take (k + 1)) w = sumL base (l.take k) w + termL w l[k] := by
  unfold sumL
  rw [List.take_succ_eq_append_getElem h, List.map_append, List.sum_append]
  simp
  omega
def okB (base : Int) (l : List Ld) : Bool := topB base 0 && decide (l.length ≤ 64) && l.all (fun p => topB p.1 1 && topB p.2 0)
structure OkL (base : Int) (l : List Ld) : Prop where
  base0 : 0 ≤ base
  base1 : base ≤ 1000000
  len : l.length ≤ 64
  each : ∀ p ∈ l, (1 ≤ p.1 ∧ p.1 ≤ 1000000) ∧ 0 ≤ p.2 ∧ p.2 ≤ 1000000
theorem okB_iff {base : Int} {l : List Ld} : okB base l = true ↔ OkL base l := by
  unfold okB
  simp only [Bool.and_eq_true, List.all_eq_true, topB_iff, decide_eq_true_eq]
  exact ⟨fun ⟨⟨h1, h2⟩, h3⟩ => ⟨h1.1, h1.2, h2, h3⟩, fun h => ⟨⟨⟨h.base0, h.base1⟩, h.len⟩, h.each⟩⟩
/-- rounded up: between a / b and a / b + 1 -/
theorem ceil_le {a b x : Int} (ha : 0 ≤ a) (hb : 1 ≤ b) : ceilF a b ≤ x ↔ a ≤ x * b := by
  have h1 := Int.ediv_mul_le a (b := b) (by omega)
  have h2 := Int.lt_ediv_add_one_mul_self a (b := b) (by omega)
  unfold ceilF
  cases h : decide (a / b * b < a) with
  | true =>
    rw [decide_eq_true_eq] at h
    simp only [cond_true]
    constructor
    · intro hx
      have := Int.mul_le_mul_of_nonneg_right hx (show 0 ≤ b by omega)
      omega
    · intro hx
      apply Int.not_lt.1
      intro hlt
      have : x ≤ a / b := by omega
      have := Int.mul_le_mul_of_nonneg_right this (show 0 ≤ b by omega)
      omega
  | false =>
    rw [decide_eq_false_iff_not] at h
    simp only [cond_false]
    constructor
    · intro hx
      have := Int.mul_le_mul_of_nonneg_right hx (show 0 ≤ b by omega)
      omega
    · intro hx
      apply Int.not_lt.1
      intro hlt
      have : x + 1 ≤ a / b := by omega
      have := Int.mul_le_mul_of_nonneg_right this (show 0 ≤ b by omega)
      rw [Int.add_mul] at this
      omega
theorem ceil_mono {a a' b : Int} (ha : 0 ≤ a) (h : a ≤ a') (hb : 1 ≤ b) : ceilF a b ≤ ceilF a' b :=
  (ceil_le ha hb).2 (Int.le_trans h ((ceil_le (by omega) hb).1 (Int.le_refl _)))
theorem ceil_nonneg {a b : Int} (ha : 0 ≤ a) (hb : 1 ≤ b) : 0 ≤ ceilF a b := by
  have := Int.ediv_nonneg ha (show 0 ≤ b by omega)
  unfold ceilF
  cases decide (a / b * b < a)
  · exact this
  · show 0 ≤ a / b + 1; omega
theorem ceil_self {a b : Int} (ha : 0 ≤ a) (hb : 1 ≤ b) : ceilF a b ≤ a := by
  rw [ceil_le ha hb]
  have := Int.mul_le_mul_of_nonneg_left hb ha
  omega
/-- the document's way to round up -/
theorem ceil_doc {a b : Int} (ha : 0 ≤ a) (hb : 1 ≤ b) : (a + b - 1) / b = ceilF a b := by
  apply Int.le_antisymm
  · rw [← Int.lt_add_one_iff, Int.ediv_lt_iff_lt_mul (by omega)]
    have := (ceil_le (x := ceilF a b) ha hb).1 (Int.le_refl _)
    rw [Int.add_mul]
    omega
  · rw [ceil_le ha hb]
    have := Int.lt_ediv_add_one_mul_self (a + b - 1) (b := b) (by omega)
    rw [Int.add_mul] at this
    omega
theorem term_bound {w : Int} {p : Ld} (hw : 0 ≤ w ∧ w ≤ 1000000) (hp : (1 ≤ p.1 ∧ p.1 ≤ 1000000) ∧ 0 ≤ p.2 ∧ p.2 ≤ 1000000) : 0 ≤ termL w p ∧ termL w p ≤ 1000000000000 := by
  have h1 := ceil_nonneg hw.1 hp.1.1
  have h2 := ceil_self hw.1 hp.1.1
  unfold termL
  refine ⟨Int.mul_nonneg hp.2.1 h1, ?_⟩
  have := Int.mul_le_mul hp.2.2 (show ceilF w p.1 ≤ 1000000 by omega) h1 (by omega)
  omega
theorem sum_bound {base : Int} {l : List Ld} {w : Int} (hl : OkL base l) (hw : 0 ≤ w ∧ w ≤ 1000000) (k : Nat) : base ≤ sumL base (l.take k) w ∧ sumL base (l.take k) w ≤ base + (min k l.length : Nat) * 1000000000000 := by
  induction k with
  | zero => simp [sumL_nil]
  | succ k ih =>
    rcases Nat.lt_or_ge k l.length with h | h
    · rw [sumL_step base l w h]
      have := term_bound hw (hl.each _ (List.getElem_mem h))
      rw [Nat.min_eq_left (by omega)] at ih ⊢
      omega
    · rw [List.take_of_length_le (by omega)]
      rw [List.take_of_length_le h] at ih
      rw [Nat.min_eq_right (by omega)] at ih ⊢
      exact ih
theorem sum_mono {base : Int} {l : List Ld} {w w' : Int} (hl : ∀ p ∈ l, 1 ≤ p.1 ∧ 0 ≤ p.2) (h0 : 0 ≤ w) (h : w ≤ w') : sumL base l w ≤ sumL base l w' := by
  unfold sumL
  have : (l.map (termL w)).sum ≤ (l.map (termL w')).sum := by
    induction l with
    | nil => simp
    | cons p l ih =>
      simp only [List.map_cons, List.sum_cons]
      have h1 := ih (fun q hq => hl q (List.mem_cons_of_mem _ hq))
      have hp := hl p List.mem_cons_self
      have h2 : termL w p ≤ termL w' p := Int.mul_le_mul_of_nonneg_left (ceil_mono h0 h hp.1) hp.2
      omega
  omega
theorem sum_base (base : Int) (l : List Ld) (w : Int) : sumL base l w = base + sumL 0 l w := by unfold sumL; omega

/-- on from w: the first number that is its own sum -/
def leastW (base : Int) (l : List Ld) (w : Int) : Option Int :=
  if sumL base l w = w then some w
  else if _h : sumL base l w < w ∨ 1000000 < sumL base l w then none
  else leastW base l (sumL base l w)
termination_by (1000001 - w).toNat
decreasing_by omega
def least (base : Int) (l : List Ld) : Option Int := if okB base l then leastW base l 1 else none
/-- the sum, where it is told -/
def sumT (base : Int) (l : List Ld) (w : Int) : Int := bif topB w 0 then sumL base l w else 0
theorem sumT_in {base : Int} {l : List Ld} {w : Int} (h : 0 ≤ w ∧ w ≤ 1000000) : sumT base l w = sumL base l w := by
  unfold sumT
  rw [show topB w 0 = true from topB_iff.2 h]
  rfl
theorem sumT_up {base : Int} {l : List Ld} {w : Int} (h : ¬ sumT base l w ≤ w) : (1000001 - sumT base l w).toNat < (1000001 - w).toNat := by
  unfold sumT at *
  cases ht : topB w 0 with
  | true =>
    have := topB_iff.1 ht
    rw [ht] at h
    simp only [cond_true] at h ⊢
    omega
  | false =>
    rw [ht] at h
    simp only [cond_false] at h ⊢
    omega
/-- on from w: the first number that its sum does not pass -/
def doneW (base : Int) (l : List Ld) (w : Int) : Int :=
  if _h : sumT base l w ≤ w then w else doneW base l (sumT base l w)
termination_by (1000001 - w).toNat
decreasing_by exact sumT_up _h
def optN : Option Int → Value
  | some n => .tuple #[.int .i64 n, .bool true]
  | none => .tuple #[.int .i64 0, .bool false]
theorem leastW_here {base : Int} {l : List Ld} {w : Int} (h : sumL base l w = w) : leastW base l w = some w := by unfold leastW; rw [if_pos h]
theorem leastW_none {base : Int} {l : List Ld} {w : Int} (h : sumL base l w ≠ w) (h2 : sumL base l w < w ∨ 1000000 < sumL base l w) : leastW base l w = none := by unfold leastW; rw [if_neg h, dif_pos h2]
theorem leastW_next {base : Int} {l : List Ld} {w : Int} (h : sumL base l w ≠ w) (h2 : ¬ (sumL base l w < w ∨ 1000000 < sumL base l w)) : leastW base l w = leastW base l (sumL base l w) := by
  conv => lhs; unfold leastW
  rw [if_neg h, dif_neg h2]
theorem doneW_here {base : Int} {l : List Ld} {w : Int} (h : sumT base l w ≤ w) : doneW base l w = w := by unfold doneW; rw [dif_pos h]
theorem doneW_next {base : Int} {l : List Ld} {w : Int} (h : ¬ sumT base l w ≤ w) : doneW base l w = doneW base l (sumT base l w) := by
  conv => lhs; unfold doneW
  rw [dif_neg h]
/-- the least number that is its own sum: it is no more than any that its sum does not pass -/
theorem leastW_spec {base : Int} {l : List Ld} (hl : ∀ p ∈ l, 1 ≤ p.1 ∧ 0 ≤ p.2) : ∀ (n : Nat) (w : Int), (1000001 - w).toNat = n → 0 ≤ w → w ≤ 1000000 → w ≤ sumL base l w →
    (∀ f, leastW base l w = some f → sumL base l f = f ∧ w ≤ f ∧ f ≤ 1000000) ∧ ∀ x, w ≤ x → x ≤ 1000000 → sumL base l x ≤ x → ∃ f, leastW base l w = some f ∧ f ≤ x := by
  intro n
  induction n using Nat.strongRecOn with
  | ind n ih =>
    intro w hn h0 h1 hup
    by_cases he : sumL base l w = w
    · rw [leastW_here he]
      exact ⟨fun f hf => by cases hf; exact ⟨he, Int.le_refl _, h1⟩, fun x hx _ _ => ⟨w, rfl, hx⟩⟩
    · by_cases h2 : sumL base l w < w ∨ 1000000 < sumL base l w
      · rw [leastW_none he h2]
        refine ⟨fun f hf => (by cases hf), fun x hx hx1 hxx => ?_⟩
        have := sum_mono (base := base) hl h0 hx
        omega
      · rw [leastW_next he h2]
        have h3 : w < sumL base l w := by omega
        have h4 := ih (1000001 - sumL base l w).toNat (by omega) (sumL base l w) rfl (by omega) (by omega) (sum_mono hl h0 (by omega))
        refine ⟨fun f hf => ?_, fun x hx hx1 hxx => ?_⟩
        · obtain ⟨h5, h6, h7⟩ := h4.1 f hf
          exact ⟨h5, by omega, h7⟩
        · have := sum_mono (base := base) hl h0 hx
          exact h4.2 x (by omega) hx1 hxx
/-- from any number on that is no more than the least one, and that its sum does not fall below, one comes to the least one -/
theorem doneW_spec {base : Int} {l : List Ld} (hl : ∀ p ∈ l, 1 ≤ p.1 ∧ 0 ≤ p.2) {f : Int} (hf : sumL base l f = f) (hf1 : f ≤ 1000000) (hmin : ∀ x, 0 ≤ x → sumL base l x ≤ x → f ≤ x) :
    ∀ (n : Nat) (w : Int), (1000001 - w).toNat = n → 0 ≤ w → w ≤ f → doneW base l w = f := by
  intro n
  induction n using Nat.strongRecOn with
  | ind n ih =>
    intro w hn h0 hw
    have hs := sumT_in (base := base) (l := l) (w := w) ⟨h0, by omega⟩
    by_cases he : sumT base l w ≤ w
    · rw [doneW_here he]
      rw [hs] at he
      have := hmin w h0 he
      omega
    · rw [doneW_next he]
      have hup := sumT_up he
      rw [hs] at he hup ⊢
      have := sum_mono (base := base) hl h0 hw
      exact ih _ (by omega) _ rfl (by omega) (by omega)
end Go.Proofs.YtknfdjnbndfboaaDoor
