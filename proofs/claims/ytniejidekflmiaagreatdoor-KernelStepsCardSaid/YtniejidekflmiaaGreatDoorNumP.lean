/- Numbers: what num answers. -/
import Derived.WalkKit
import Derived.Laws.FloatArith
namespace Go.Proofs.YtniejidekflmiaaGreatDoor
def isN (n : Int) : Bool := decide (0 ≤ n) && decide (n ≤ 1099511627776)
theorem isN_iff {n : Int} : isN n = true ↔ 0 ≤ n ∧ n ≤ 1099511627776 := by unfold isN; simp
theorem isN_eq (n : Int) : (decide (0 ≤ n) && decide (n ≤ 1099511627776)) = isN n := by unfold isN; rfl
attribute [irreducible] isN
def pairN (n : Int) (b : Bool) : Value := bif b then .tuple #[.int .i64 n, .bool true] else .tuple #[.int .i64 0, .bool false]
def ceilF (a b : Int) : Int := bif decide (a / b * b < a) then a / b + 1 else a / b
theorem isN_add {a b : Int} (ha : isN a = true) (hb : isN b = true) : -9223372036854775808 ≤ a + b ∧ a + b ≤ 9223372036854775807 := by
  rw [isN_iff] at ha hb
  omega
theorem isN_div {a b : Int} (ha : isN a = true) (hb : isN b = true) (h0 : b ≠ 0) : 0 ≤ a / b ∧ a / b ≤ a ∧ 0 ≤ a / b * b ∧ a / b * b ≤ a ∧ a < a / b * b + b := by
  rw [isN_iff] at ha hb
  have h1 := Int.ediv_nonneg ha.1 hb.1
  have h2 := Int.ediv_mul_le a h0
  have h3 : a / b ≤ a := Int.ediv_le_self b ha.1
  have h4 := Int.lt_ediv_add_one_mul_self a (b := b) (by omega)
  rw [Int.add_mul] at h4
  exact ⟨h1, h3, Int.mul_nonneg h1 hb.1, h2, by omega⟩
end Go.Proofs.YtniejidekflmiaaGreatDoor
/- Rows of loads, their sums, the least number that is its own sum: in plain Lean. -/
namespace Go.Proofs.YtniejidekflmiaaGreatDoor

def topB (n least : Int) : Bool := decide (least ≤ n) && decide (n ≤ 1000000)
theorem topB_eq (n least : Int) : (decide (least ≤ n) && decide (n ≤ 1000000)) = topB n least := rfl
theorem topB_iff {n least : Int} : topB n least = true ↔ least ≤ n ∧ n ≤ 1000000 := by unfold topB; simp
abbrev Ld := Int × Int
def termL (w : Int) (p : Ld) : Int := p.2 * ceilF w p.1
def sumL (base : Int) (l : List Ld) (w : Int) : Int := base + (l.map (termL w)).sum
theorem sumL_nil (base w : Int) : sumL base [] w = base := by simp [sumL]
theorem sumL_step (base : Int) (l : List Ld) (w : Int) {k : Nat} (h : k < l.length) : sumL base (l.take (k + 1)) w = sumL base (l.take k) w + termL w l[k] := by
  unfold sumL
  rw [List.take_succ_eq_append_getElem h, List.map_append, List.sum_append]
  simp
  omega
def okB (base : Int) (l : List Ld) : Bool := topB base 0 && decide (l.length ≤ 64) && l.all (fun p => topB p.1 1 && topB p.2 0)
structure OkL (base : Int) (l : List Ld) : Prop where
  base0 : 0 ≤ base
  base1 : base ≤ 1000000
  len : l.length ≤ 64
  each : ∀ p ∈ l, (1 ≤ p.1 ∧ p.1 ≤ 1000000) ∧ 0 ≤ p.2 ∧ p.2 ≤ 1000000
theorem okB_iff {base : Int} {l : List Ld} : okB base l = true ↔ OkL base l := by
  unfold okB
  simp only [Bool.and_eq_true, List.all_eq_true, topB_iff, decide_eq_true_eq]
  exact ⟨fun ⟨⟨h1, h2⟩, h3⟩ => ⟨h1.1, h1.2, h2, h3⟩, fun h => ⟨⟨⟨h.base0, h.base1⟩, h.len⟩, h.each⟩⟩
/-- rounded up: between a / b and a / b + 1 -/
theorem ceil_le {a b x : Int} (_ha : 0 ≤ a) (hb : 1 ≤ b) : ceilF a b ≤ x ↔ a ≤ x * b := by
  have h1 := Int.ediv_mul_le a (b := b) (by omega)
  have h2 := Int.lt_ediv_add_one_mul_self a (b := b) (by omega)
  unfold ceilF
  cases h : decide (a / b * b < a) with
  | true =>
    rw [decide_eq_true_eq] at h
    simp only [cond_true]
    constructor
    · intro hx
      have := Int.mul_le_mul_of_nonneg_right hx (show 0 ≤ b by omega)
      omega
    · intro hx
      apply Int.not_lt.1
      intro hlt
      have : x ≤ a / b := by omega
      have := Int.mul_le_mul_of_nonneg_right this (show 0 ≤ b by omega)
      omega
  | false =>
    rw [decide_eq_false_iff_not] at h
    simp only [cond_false]
    constructor
    · intro hx
      have := Int.mul_le_mul_of_nonneg_right hx (show 0 ≤ b by omega)
      omega
    · intro hx
      apply Int.not_lt.1
      intro hlt
      have : x + 1 ≤ a / b := by omega
      have := Int.mul_le_mul_of_nonneg_right this (show 0 ≤ b by omega)
      rw [Int.add_mul] at this
      omega
theorem ceil_mono {a a' b : Int} (ha : 0 ≤ a) (h : a ≤ a') (hb : 1 ≤ b) : ceilF a b ≤ ceilF a' b :=
  (ceil_le ha hb).2 (Int.le_trans h ((ceil_le (by omega) hb).1 (Int.le_refl _)))
theorem ceil_nonneg {a b : Int} (ha : 0 ≤ a) (hb : 1 ≤ b) : 0 ≤ ceilF a b := by
  have := Int.ediv_nonneg ha (show 0 ≤ b by omega)
  unfold ceilF
  cases decide (a / b * b < a)
  · exact this
  · show 0 ≤ a / b + 1; omega
theorem ceil_self {a b : Int} (ha : 0 ≤ a) (hb : 1 ≤ b) : ceilF a b ≤ a := by
  rw [ceil_le ha hb]
  have := Int.mul_le_mul_of_nonneg_left hb ha
  omega
/-- the document's way to round up -/
theorem ceil_doc {a b : Int} (ha : 0 ≤ a) (hb : 1 ≤ b) : (a + b - 1) / b = ceilF a b := by
  apply Int.le_antisymm
  · rw [← Int.lt_add_one_iff, Int.ediv_lt_iff_lt_mul (by omega)]
    have := (ceil_le (x := ceilF a b) ha hb).1 (Int.le_refl _)
    rw [Int.add_mul]
    omega
  · rw [ceil_le ha hb]
    have := Int.lt_ediv_add_one_mul_self (a + b - 1) (b := b) (by omega)
    rw [Int.add_mul] at this
    omega
theorem term_bound {w : Int} {p : Ld} (hw : 0 ≤ w ∧ w ≤ 1000000) (hp : (1 ≤ p.1 ∧ p.1 ≤ 1000000) ∧ 0 ≤ p.2 ∧ p.2 ≤ 1000000) : 0 ≤ termL w p ∧ termL w p ≤ 1000000000000 := by
  have h1 := ceil_nonneg hw.1 hp.1.1
  have h2 := ceil_self hw.1 hp.1.1
  unfold termL
  refine ⟨Int.mul_nonneg hp.2.1 h1, ?_⟩
  have := Int.mul_le_mul hp.2.2 (show ceilF w p.1 ≤ 1000000 by omega) h1 (by omega)
  omega
theorem sum_bound {base : Int} {l : List Ld} {w : Int} (hl : OkL base l) (hw : 0 ≤ w ∧ w ≤ 1000000) (k : Nat) : base ≤ sumL base (l.take k) w ∧ sumL base (l.take k) w ≤ base + (min k l.length : Nat) * 1000000000000 := by
  induction k with
  | zero => simp [sumL_nil]
  | succ k ih =>
    rcases Nat.lt_or_ge k l.length with h | h
    · rw [sumL_step base l w h]
      have := term_bound hw (hl.each _ (List.getElem_mem h))
      rw [Nat.min_eq_left (by omega)] at ih ⊢
      omega
    · rw [List.take_of_length_le (by omega)]
      rw [List.take_of_length_le h] at ih
      rw [Nat.min_eq_right (by omega)] at ih ⊢
      exact ih
theorem sum_mono {base : Int} {l : List Ld} {w w' : Int} (hl : ∀ p ∈ l, 1 ≤ p.1 ∧ 0 ≤ p.2) (h0 : 0 ≤ w) (h : w ≤ w') : sumL base l w ≤ sumL base l w' := by
  unfold sumL
  have : (l.map (termL w)).sum ≤ (l.map (termL w')).sum := by
    induction l with
    | nil => simp
    | cons p l ih =>
      simp only [List.map_cons, List.sum_cons]
      have h1 := ih (fun q hq => hl q (List.mem_cons_of_mem _ hq))
      have hp := hl p List.mem_cons_self
      have h2 : termL w p ≤ termL w' p := Int.mul_le_mul_of_nonneg_left (ceil_mono h0 h hp.1) hp.2
      omega
  omega
theorem sum_base (base : Int) (l : List Ld) (w : Int) : sumL base l w = base + sumL 0 l w := by unfold sumL; omega

/-- on from w: the first number that is its own sum -/
def leastW (base : Int) (l : List Ld) (w : Int) : Option Int :=
  if sumL base l w = w then some w
  else if _h : sumL base l w < w ∨ 1000000 < sumL base l w then none
  else leastW base l (sumL base l w)
termination_by (1000001 - w).toNat
decreasing_by omega
def least (base : Int) (l : List Ld) : Option Int := if okB base l then leastW base l 1 else none
/-- the sum, where it is told -/
def sumT (base : Int) (l : List Ld) (w : Int) : Int := bif topB w 0 then sumL base l w else 0
theorem sumT_in {base : Int} {l : List Ld} {w : Int} (h : 0 ≤ w ∧ w ≤ 1000000) : sumT base l w = sumL base l w := by
  unfold sumT
  rw [show topB w 0 = true from topB_iff.2 h]
  rfl
theorem sumT_up {base : Int} {l : List Ld} {w : Int} (h : ¬ sumT base l w ≤ w) : (1000001 - sumT base l w).toNat < (1000001 - w).toNat := by
  unfold sumT at *
  cases ht : topB w 0 with
  | true =>
    have := topB_iff.1 ht
    rw [ht] at h
    simp only [cond_true] at h ⊢
    omega
  | false =>
    rw [ht] at h
    simp only [cond_false] at h ⊢
    omega
/-- on from w: the first number that its sum does not pass -/
def doneW (base : Int) (l : List Ld) (w : Int) : Int :=
  if _h : sumT base l w ≤ w then w else doneW base l (sumT base l w)
termination_by (1000001 - w).toNat
decreasing_by exact sumT_up _h
def optN : Option Int → Value
  | some n => .tuple #[.int .i64 n, .bool true]
  | none => .tuple #[.int .i64 0, .bool false]
theorem leastW_here {base : Int} {l : List Ld} {w : Int} (h : sumL base l w = w) : leastW base l w = some w := by unfold leastW; rw [if_pos h]
theorem leastW_none {base : Int} {l : List Ld} {w : Int} (h : sumL base l w ≠ w) (h2 : sumL base l w < w ∨ 1000000 < sumL base l w) : leastW base l w = none := by unfold leastW; rw [if_neg h, dif_pos h2]
theorem leastW_next {base : Int} {l : List Ld} {w : Int} (h : sumL base l w ≠ w) (h2 : ¬ (sumL base l w < w ∨ 1000000 < sumL base l w)) : leastW base l w = leastW base l (sumL base l w) := by
  conv => lhs; unfold leastW
  rw [if_neg h, dif_neg h2]
theorem doneW_here {base : Int} {l : List Ld} {w : Int} (h : sumT base l w ≤ w) : doneW base l w = w := by unfold doneW; rw [dif_pos h]
theorem doneW_next {base : Int} {l : List Ld} {w : Int} (h : ¬ sumT base l w ≤ w) : doneW base l w = doneW base l (sumT base l w) := by
  conv => lhs; unfold doneW
  rw [dif_neg h]
/-- the least number that is its own sum: it is no more than any that its sum does not pass -/
theorem leastW_spec {base : Int} {l : List Ld} (hl : ∀ p ∈ l, 1 ≤ p.1 ∧ 0 ≤ p.2) : ∀ (n : Nat) (w : Int), (1000001 - w).toNat = n → 0 ≤ w → w ≤ 1000000 → w ≤ sumL base l w →
    (∀ f, leastW base l w = some f → sumL base l f = f ∧ w ≤ f ∧ f ≤ 1000000) ∧ ∀ x, w ≤ x → x ≤ 1000000 → sumL base l x ≤ x → ∃ f, leastW base l w = some f ∧ f ≤ x := by
  intro n
  induction n using Nat.strongRecOn with
  | ind n ih =>
    intro w hn h0 h1 hup
    by_cases he : sumL base l w = w
    · rw [leastW_here he]
      exact ⟨fun f hf => by cases hf; exact ⟨he, Int.le_refl _, h1⟩, fun x hx _ _ => ⟨w, rfl, hx⟩⟩
    · by_cases h2 : sumL base l w < w ∨ 1000000 < sumL base l w
      · rw [leastW_none he h2]
        refine ⟨fun f hf => (by cases hf), fun x hx hx1 hxx => ?_⟩
        have := sum_mono (base := base) hl h0 hx
        omega
      · rw [leastW_next he h2]
        have h3 : w < sumL base l w := by omega
        have h4 := ih (1000001 - sumL base l w).toNat (by omega) (sumL base l w) rfl (by omega) (by omega) (sum_mono hl h0 (by omega))
        refine ⟨fun f hf => ?_, fun x hx hx1 hxx => ?_⟩
        · obtain ⟨h5, h6, h7⟩ := h4.1 f hf
          exact ⟨h5, by omega, h7⟩
        · have := sum_mono (base := base) hl h0 hx
          exact h4.2 x (by omega) hx1 hxx
/-- from any number on that is no more than the least one, and that its sum does not fall below, one comes to the least one -/
theorem doneW_spec {base : Int} {l : List Ld} (hl : ∀ p ∈ l, 1 ≤ p.1 ∧ 0 ≤ p.2) {f : Int} (hf : sumL base l f = f) (hf1 : f ≤ 1000000) (hmin : ∀ x, 0 ≤ x → sumL base l x ≤ x → f ≤ x) :
    ∀ (n : Nat) (w : Int), (1000001 - w).toNat = n → 0 ≤ w → w ≤ f → doneW base l w = f := by
  intro n
  induction n using Nat.strongRecOn with
  | ind n ih =>
    intro w hn h0 hw
    have hs := sumT_in (base := base) (l := l) (w := w) ⟨h0, by omega⟩
    by_cases he : sumT base l w ≤ w
    · rw [doneW_here he]
      rw [hs] at he
      have := hmin w h0 he
      omega
    · rw [doneW_next he]
      have hup := sumT_up he
      rw [hs] at he hup ⊢
      have := sum_mono (base := base) hl h0 hw
      exact ih _ (by omega) _ rfl (by omega) (by omega)
end Go.Proofs.YtniejidekflmiaaGreatDoor
/- How long a job takes at most: in plain Lean. -/
namespace Go.Proofs.YtniejidekflmiaaGreatDoor

theorem sum_append (base : Int) (l : List Ld) (p : Ld) (x : Int) : sumL base (l ++ [p]) x = sumL base l x + termL x p := by
  unfold sumL
  rw [List.map_append, List.sum_append]
  simp
  omega
/-- the least number, or 0 -/
def leastZ (base : Int) (l : List Ld) : Int := (least base l).getD 0
/-- the greatest bound of the first jobs -/
def respL (T w b : Int) (l : List Ld) : Nat → Int
  | 0 => 0
  | q + 1 => max (respL T w b l q) (leastZ (b + (q + 1) * w) l - q * T)
/-- how many jobs there are within a time -/
def jobsN (T long : Int) : Nat := (ceilF long T).toNat
theorem jobs_iff {T long : Int} (hT : 1 ≤ T) (hl : 0 ≤ long) (q : Nat) : q < jobsN T long ↔ (q : Int) * T < long := by
  unfold jobsN
  have h := ceil_le (a := long) (b := T) (x := q) hl hT
  have h0 := ceil_nonneg hl hT
  constructor
  · intro hq
    apply Int.not_le.1
    intro hc
    have := h.2 hc
    omega
  · intro hq
    have := fun hc => Int.not_le.2 hq (h.1 hc)
    omega
def withL (T w D b : Int) (l : List Ld) : Int × Int :=
  match least b (l ++ [(T, w)]) with
  | none => (0, 3)
  | some long => (respL T w b l (jobsN T long), if respL T w b l (jobsN T long) ≤ D then 1 else 2)

/-- loads as they may be -/
structure LdsOk (l : List Ld) : Prop where
  len : l.length ≤ 60
  each : ∀ p ∈ l, (1 ≤ p.1 ∧ p.1 ≤ 1000000) ∧ 0 ≤ p.2 ∧ p.2 ≤ 1000000
theorem LdsOk.two {l : List Ld} (h : LdsOk l) : ∀ p ∈ l, 1 ≤ p.1 ∧ 0 ≤ p.2 := fun p hp => ⟨(h.each p hp).1.1, (h.each p hp).2.1⟩
theorem LdsOk.ok {l : List Ld} (h : LdsOk l) {b : Int} (h0 : 0 ≤ b) (h1 : b ≤ 1000000) : OkL b l := ⟨h0, h1, by have := h.len; omega, h.each⟩
theorem LdsOk.with {l : List Ld} (h : LdsOk l) {b T w : Int} (h0 : 0 ≤ b) (h1 : b ≤ 1000000) (hT : 1 ≤ T ∧ T ≤ 1000000) (hw : 0 ≤ w ∧ w ≤ 1000000) : OkL b (l ++ [(T, w)]) := by
  refine ⟨h0, h1, by have := h.len; simp; omega, fun p hp => ?_⟩
  rcases List.mem_append.1 hp with hp | hp
  · exact h.each p hp
  · rw [List.mem_singleton] at hp
    subst hp
    exact ⟨hT, hw⟩
theorem sum_nonneg {l : List Ld} (hl : ∀ p ∈ l, 1 ≤ p.1 ∧ 0 ≤ p.2) {base x : Int} (hx : 0 ≤ x) : base ≤ sumL base l x := by
  unfold sumL
  have : 0 ≤ (l.map (termL x)).sum := by
    induction l with
    | nil => simp
    | cons p l ih =>
      simp only [List.map_cons, List.sum_cons]
      have h1 := ih (fun q hq => hl q (List.mem_cons_of_mem _ hq))
      have hp := hl p List.mem_cons_self
      have h2 : 0 ≤ termL x p := Int.mul_nonneg hp.2 (ceil_nonneg hx hp.1)
      omega
  omega
/-- what the least number is -/
theorem least_spec {base : Int} {l : List Ld} (hok : OkL base l) (h1 : 1 ≤ sumL base l 1) :
    (∀ f, least base l = some f → sumL base l f = f ∧ 1 ≤ f ∧ f ≤ 1000000) ∧ ∀ x, 1 ≤ x → x ≤ 1000000 → sumL base l x ≤ x → ∃ f, least base l = some f ∧ f ≤ x := by
  have h := leastW_spec (base := base) (l := l) (fun p hp => ⟨(hok.each p hp).1.1, (hok.each p hp).2.1⟩) _ 1 rfl (by omega) (by omega) h1
  unfold least
  rw [if_pos (okB_iff.2 hok)]
  exact h
theorem least_ok {base : Int} {l : List Ld} {f : Int} (h : least base l = some f) : OkL base l := by
  unfold least at h
  split at h
  · rename_i hb; exact okB_iff.1 hb
  · cases h
/-- with a base of 1 or more: the least one does not pass any that its sum does not pass -/
theorem leastZ_spec {base : Int} {l : List Ld} (hl : LdsOk l) (h1 : 1 ≤ base) {x : Int} (hx : 1 ≤ x) (hx1 : x ≤ 1000000) (hs : sumL base l x ≤ x) :
    least base l = some (leastZ base l) ∧ sumL base l (leastZ base l) = leastZ base l ∧ base ≤ leastZ base l ∧ leastZ base l ≤ x ∧ ∀ y, 0 ≤ y → sumL base l y ≤ y → leastZ base l ≤ y := by
  have hb := sum_nonneg hl.two (base := base) (x := x) (by omega)
  have hok := hl.ok (b := base) (by omega) (by omega)
  have hsp := least_spec hok (Int.le_trans h1 (sum_nonneg hl.two (by omega)))
  obtain ⟨f, hf, hfx⟩ := hsp.2 x hx hx1 hs
  have hz : leastZ base l = f := by unfold leastZ; rw [hf]; rfl
  rw [hz]
  obtain ⟨h3, h4, h5⟩ := hsp.1 f hf
  have h6 := sum_nonneg hl.two (base := base) (x := f) (by omega)
  refine ⟨hf, h3, by omega, hfx, fun y hy hyy => ?_⟩
  by_cases hy0 : y = 0
  · have := sum_nonneg hl.two (base := base) (x := y) (by omega)
    omega
  · by_cases hy1 : y ≤ 1000000
    · obtain ⟨g, hg, hgy⟩ := hsp.2 y (by omega) hy1 hyy
      rw [hf] at hg
      cases hg
      exact hgy
    · omega
/-- within a busy time the first jobs are done -/
theorem busy_job {T w b long : Int} {l : List Ld} (hl : LdsOk l) (hT : 1 ≤ T ∧ T ≤ 1000000) (hw : 1 ≤ w ∧ w ≤ 1000000) (h : least b (l ++ [(T, w)]) = some long) :
    0 ≤ b ∧ b ≤ 1000000 ∧ 1 ≤ long ∧ long ≤ 1000000 ∧ ∀ q : Nat, (q : Int) * T < long → sumL (b + (q + 1) * w) l long ≤ long := by
  have hok := least_ok h
  have h1 : 1 ≤ sumL b (l ++ [(T, w)]) 1 := by
    rw [sum_append]
    have h2 := sum_nonneg hl.two (base := b) (x := 1) (by omega)
    have h3 : 1 ≤ ceilF 1 T := by
      have := (ceil_le (a := 1) (b := T) (x := 0) (by omega) hT.1)
      omega
    have h4 : w * 1 ≤ w * ceilF 1 T := Int.mul_le_mul_of_nonneg_left h3 (by omega)
    have h5 := hok.base0
    show 1 ≤ sumL b l 1 + w * ceilF 1 T
    omega
  obtain ⟨h2, h3, h4⟩ := (least_spec hok h1).1 long h
  refine ⟨hok.base0, hok.base1, h3, h4, fun q hq => ?_⟩
  rw [sum_append] at h2
  have h5 : (q : Int) + 1 ≤ ceilF long T := by
    have := (ceil_le (a := long) (b := T) (x := q) (by omega) hT.1)
    omega
  have h6 : w * (q + 1) ≤ w * ceilF long T := Int.mul_le_mul_of_nonneg_left h5 (by omega)
  rw [sum_base] at h2 ⊢
  rw [Int.mul_comm w] at h6
  have h7 : termL long (T, w) = w * ceilF long T := rfl
  omega
/-- each of these jobs' least number -/
theorem job_least {T w b long : Int} {l : List Ld} (hl : LdsOk l) (hT : 1 ≤ T ∧ T ≤ 1000000) (hw : 1 ≤ w ∧ w ≤ 1000000) (h : least b (l ++ [(T, w)]) = some long) (q : Nat) (hq : (q : Int) * T < long) :
    least (b + (q + 1) * w) l = some (leastZ (b + (q + 1) * w) l) ∧ sumL (b + (q + 1) * w) l (leastZ (b + (q + 1) * w) l) = leastZ (b + (q + 1) * w) l ∧ b + (q + 1) * w ≤ leastZ (b + (q + 1) * w) l ∧ leastZ (b + (q + 1) * w) l ≤ long ∧ 1 ≤ b + (q + 1) * w ∧
    ∀ y, 0 ≤ y → sumL (b + (q + 1) * w) l y ≤ y → leastZ (b + (q + 1) * w) l ≤ y := by
  obtain ⟨h1, h2, h3, h4, h5⟩ := busy_job hl hT hw h
  have h6 : 1 * w ≤ ((q : Int) + 1) * w := Int.mul_le_mul_of_nonneg_right (by omega) (by omega)
  have h7 : 1 ≤ b + (q + 1) * w := by omega
  obtain ⟨a, b, c, d, e⟩ := leastZ_spec hl h7 h3 h4 (h5 q hq)
  exact ⟨a, b, c, d, h7, e⟩
/-- where the program looks for it from: 1, then the one before -/
def fromF (w b : Int) (l : List Ld) : Nat → Int
  | 0 => 1
  | q + 1 => leastZ (b + (q + 1) * w) l
theorem done_job {T w b long : Int} {l : List Ld} (hl : LdsOk l) (hT : 1 ≤ T ∧ T ≤ 1000000) (hw : 1 ≤ w ∧ w ≤ 1000000) (h : least b (l ++ [(T, w)]) = some long) (q : Nat) (hq : (q : Int) * T < long) :
    doneW (b + (q + 1) * w) l (fromF w b l q) = leastZ (b + (q + 1) * w) l := by
  obtain ⟨_, _, h3, h4, _⟩ := busy_job hl hT hw h
  obtain ⟨a1, a2, a3, a4, a5, a6⟩ := job_least hl hT hw h q hq
  have hf : 0 ≤ fromF w b l q ∧ fromF w b l q ≤ leastZ (b + (q + 1) * w) l := by
    cases q with
    | zero => exact ⟨by show (0 : Int) ≤ 1; omega, by show (1 : Int) ≤ _; omega⟩
    | succ p =>
      have hp : (p : Int) * T < long := by
        have : ((p + 1 : Nat) : Int) * T = p * T + T := by rw [Int.natCast_add, Int.add_mul]; omega
        omega
      obtain ⟨b1, b2, b3, b4, b5, b6⟩ := job_least hl hT hw h p hp
      refine ⟨by show 0 ≤ leastZ (b + (p + 1) * w) l; omega, b6 _ (by omega) ?_⟩
      rw [sum_base] at a2 ⊢
      have : ((p : Int) + 1) * w ≤ ((p + 1 : Nat) + 1) * w := Int.mul_le_mul_of_nonneg_right (by omega) (by omega)
      omega
  exact doneW_spec hl.two a2 (by omega) a6 _ _ rfl hf.1 hf.2
theorem resp_range {T w b long : Int} {l : List Ld} (hl : LdsOk l) (hT : 1 ≤ T ∧ T ≤ 1000000) (hw : 1 ≤ w ∧ w ≤ 1000000) (h : least b (l ++ [(T, w)]) = some long) (q : Nat) (hq : q ≤ jobsN T long) :
    0 ≤ respL T w b l q ∧ respL T w b l q ≤ 1000000 := by
  obtain ⟨_, _, h3, h4, _⟩ := busy_job hl hT hw h
  induction q with
  | zero => exact ⟨Int.le_refl _, by show (0 : Int) ≤ _; omega⟩
  | succ q ih =>
    have hq1 := (jobs_iff hT.1 (show 0 ≤ long by omega) q).1 hq
    obtain ⟨a1, a2, a3, a4, a5, a6⟩ := job_least hl hT hw h q hq1
    have := ih (by omega)
    have h0 : 0 ≤ (q : Int) * T := Int.mul_nonneg (by omega) (by omega)
    show 0 ≤ max (respL T w b l q) (leastZ (b + (q + 1) * w) l - q * T) ∧ max (respL T w b l q) (leastZ (b + (q + 1) * w) l - q * T) ≤ 1000000
    omega
/-- numbers of a job: none is too great -/
theorem job_range {T w b long : Int} {l : List Ld} (hl : LdsOk l) (hT : 1 ≤ T ∧ T ≤ 1000000) (hw : 1 ≤ w ∧ w ≤ 1000000) (h : least b (l ++ [(T, w)]) = some long) (q : Nat) (hq : (q : Int) * T < long) :
    q < 1000000 ∧ 0 ≤ (q : Int) * T ∧ (q : Int) * T < 1000000 ∧ 1 ≤ ((q : Int) + 1) * w ∧ ((q : Int) + 1) * w ≤ 1000000 ∧ b + ((q : Int) + 1) * w ≤ 1000000 := by
  obtain ⟨h1, _, h3, h4, _⟩ := busy_job hl hT hw h
  obtain ⟨a1, a2, a3, a4, a5, a6⟩ := job_least hl hT hw h q hq
  have h0 : (q : Int) * 1 ≤ (q : Int) * T := Int.mul_le_mul_of_nonneg_left hT.1 (by omega)
  have h6 : 1 * w ≤ ((q : Int) + 1) * w := Int.mul_le_mul_of_nonneg_right (by omega) (by omega)
  omega

theorem resp_le {T w b : Int} {l : List Ld} {D : Int} (hD : 0 ≤ D) (n : Nat) : respL T w b l n ≤ D ↔ ∀ q < n, leastZ (b + (q + 1) * w) l - q * T ≤ D := by
  induction n with
  | zero => exact ⟨fun _ q hq => by omega, fun _ => hD⟩
  | succ n ih =>
    show max (respL T w b l n) (leastZ (b + (n + 1) * w) l - n * T) ≤ D ↔ _
    constructor
    · intro h q hq
      by_cases hqn : q = n
      · subst hqn; omega
      · exact ih.1 (by omega) q (by omega)
    · intro h
      have h1 := ih.2 (fun q hq => h q (by omega))
      have h2 := h n (by omega)
      omega
/-- accepted -/
def accP (T w D b : Int) (l : List Ld) : Prop := ∃ long, least b (l ++ [(T, w)]) = some long ∧ ∀ q : Nat, (q : Int) * T < long → leastZ (b + (q + 1) * w) l - q * T ≤ D
theorem acc_iff {T w D b : Int} {l : List Ld} (hl : LdsOk l) (hT : 1 ≤ T ∧ T ≤ 1000000) (hw : 1 ≤ w ∧ w ≤ 1000000) (hD : 0 ≤ D) : (withL T w D b l).2 = 1 ↔ accP T w D b l := by
  unfold withL accP
  cases h : least b (l ++ [(T, w)]) with
  | none => simp
  | some long =>
    obtain ⟨_, _, h3, h4, _⟩ := busy_job hl hT hw h
    simp only [Option.some.injEq, exists_eq_left']
    rw [show (if respL T w b l (jobsN T long) ≤ D then (1 : Int) else 2) = 1 ↔ respL T w b l (jobsN T long) ≤ D by split <;> simp_all]
    rw [resp_le hD]
    constructor
    · intro h5 q hq
      exact h5 q ((jobs_iff hT.1 (by omega) q).2 hq)
    · intro h5 q hq
      exact h5 q ((jobs_iff hT.1 (by omega) q).1 hq)
/-- loads that are no more, task by task -/
inductive LdLe : List Ld → List Ld → Prop
  | nil : LdLe [] []
  | cons {p p' : Ld} {l l' : List Ld} : p'.1 = p.1 → 0 ≤ p'.2 → p'.2 ≤ p.2 → LdLe l' l → LdLe (p' :: l') (p :: l)
theorem LdLe.refl {l : List Ld} (h : ∀ p ∈ l, 0 ≤ p.2) : LdLe l l := by
  induction l with
  | nil => exact .nil
  | cons p l ih => exact .cons rfl (h p List.mem_cons_self) (Int.le_refl _) (ih fun q hq => h q (List.mem_cons_of_mem _ hq))
theorem LdLe.snoc {l l' : List Ld} (h : LdLe l' l) {p p' : Ld} (h1 : p'.1 = p.1) (h2 : 0 ≤ p'.2) (h3 : p'.2 ≤ p.2) : LdLe (l' ++ [p']) (l ++ [p]) := by
  induction h with
  | nil => exact .cons h1 h2 h3 .nil
  | cons a b c _ ih => exact .cons a b c ih
theorem LdLe.len {l l' : List Ld} (h : LdLe l' l) : l'.length = l.length := by
  induction h with
  | nil => rfl
  | cons _ _ _ _ ih => simp [ih]
theorem LdLe.each {l l' : List Ld} (h : LdLe l' l) (hl : ∀ p ∈ l, (1 ≤ p.1 ∧ p.1 ≤ 1000000) ∧ 0 ≤ p.2 ∧ p.2 ≤ 1000000) : ∀ p ∈ l', (1 ≤ p.1 ∧ p.1 ≤ 1000000) ∧ 0 ≤ p.2 ∧ p.2 ≤ 1000000 := by
  induction h with
  | nil => exact hl
  | @cons p p' l l' a b c _ ih =>
    intro q hq
    rcases List.mem_cons.1 hq with rfl | hq
    · have := hl p List.mem_cons_self
      exact ⟨by rw [a]; exact this.1, b, by omega⟩
    · exact ih (fun q hq => hl q (List.mem_cons_of_mem _ hq)) q hq
theorem LdLe.ok {l l' : List Ld} (h : LdLe l' l) (hl : LdsOk l) : LdsOk l' := ⟨by rw [h.len]; exact hl.len, h.each hl.each⟩
theorem LdLe.sum {l l' : List Ld} (h : LdLe l' l) (hl : ∀ p ∈ l, 1 ≤ p.1 ∧ 0 ≤ p.2) {b b' : Int} (hb : b' ≤ b) {x : Int} (hx : 0 ≤ x) : sumL b' l' x ≤ sumL b l x := by
  have : (l'.map (termL x)).sum ≤ (l.map (termL x)).sum := by
    induction h with
    | nil => simp
    | @cons p p' l l' a _ c _ ih =>
      have h1 := ih (fun q hq => hl q (List.mem_cons_of_mem _ hq))
      have hp := hl p List.mem_cons_self
      have h2 : termL x p' ≤ termL x p := by
        unfold termL
        rw [a]
        exact Int.mul_le_mul_of_nonneg_right c (ceil_nonneg hx hp.1)
      simp only [List.map_cons, List.sum_cons]
      omega
  unfold sumL
  omega
theorem own_one {T w b : Int} {l : List Ld} (hl : LdsOk l) (hT : 1 ≤ T ∧ T ≤ 1000000) (hw : 1 ≤ w ∧ w ≤ 1000000) (hb : 0 ≤ b) : 1 ≤ sumL b (l ++ [(T, w)]) 1 := by
  rw [sum_append]
  have h2 := sum_nonneg hl.two (base := b) (x := 1) (by omega)
  have h3 : 1 ≤ ceilF 1 T := by
    have := (ceil_le (a := 1) (b := T) (x := 0) (by omega) hT.1)
    omega
  have h4 : w * 1 ≤ w * ceilF 1 T := Int.mul_le_mul_of_nonneg_left h3 (by omega)
  show 1 ≤ sumL b l 1 + w * ceilF 1 T
  omega
/-- with less of all it is accepted still -/
theorem acc_mono {T w w' D b b' : Int} {l l' : List Ld} (hl : LdsOk l) (hle : LdLe l' l) (hT : 1 ≤ T ∧ T ≤ 1000000) (hw : w ≤ 1000000) (hw' : 1 ≤ w' ∧ w' ≤ w) (hb : 0 ≤ b' ∧ b' ≤ b) (h : accP T w D b l) : accP T w' D b' l' := by
  obtain ⟨long, h1, h2⟩ := h
  have hW : 1 ≤ w ∧ w ≤ 1000000 := by omega
  obtain ⟨g1, g2, g3, g4, g5⟩ := busy_job hl hT hW h1
  have hl' := hle.ok hl
  have hok' := hl'.with (b := b') (T := T) (w := w') hb.1 (by omega) hT (by omega)
  have hone := own_one hl' hT (show 1 ≤ w' ∧ w' ≤ 1000000 by omega) hb.1
  have hlong := ((least_spec (hl.with g1 g2 hT (by omega)) (own_one hl hT hW g1)).1 long h1).1
  have hle2 : LdLe (l' ++ [(T, w')]) (l ++ [(T, w)]) := hle.snoc rfl (by show 0 ≤ w'; omega) hw'.2
  have htwo : ∀ p ∈ l ++ [(T, w)], 1 ≤ p.1 ∧ 0 ≤ p.2 := fun p hp => by
    have := (hl.with g1 g2 hT (by omega)).each p hp
    exact ⟨this.1.1, this.2.1⟩
  have hs := hle2.sum htwo hb.2 (x := long) (by omega)
  obtain ⟨long', k1, k2⟩ := (least_spec hok' hone).2 long g3 g4 (by omega)
  refine ⟨long', k1, fun q hq => ?_⟩
  have hq1 : (q : Int) * T < long := by omega
  obtain ⟨a1, a2, a3, a4, a5, a6⟩ := job_least hl hT hW h1 q hq1
  obtain ⟨b1, b2, b3, b4, b5, b6⟩ := job_least hl' hT (show 1 ≤ w' ∧ w' ≤ 1000000 by omega) k1 q hq
  have hm : ((q : Int) + 1) * w' ≤ ((q : Int) + 1) * w := Int.mul_le_mul_of_nonneg_left hw'.2 (by omega)
  have := hle.sum hl.two (b := b + (q + 1) * w) (b' := b' + (q + 1) * w') (by omega) (x := leastZ (b + (q + 1) * w) l) (by omega)
  have := b6 (leastZ (b + (q + 1) * w) l) (by omega) (by omega)
  have := h2 q hq1
  omega
/-- the bound is no less than the work, and the blocking -/
theorem resp_work {T w b long : Int} {l : List Ld} (hl : LdsOk l) (hT : 1 ≤ T ∧ T ≤ 1000000) (hw : 1 ≤ w ∧ w ≤ 1000000) (h : least b (l ++ [(T, w)]) = some long) : b + w ≤ respL T w b l (jobsN T long) := by
  obtain ⟨g1, g2, g3, g4, g5⟩ := busy_job hl hT hw h
  have h0 : ((0 : Nat) : Int) * T < long := by simp; omega
  have h1 := (jobs_iff hT.1 (by omega) 0).2 h0
  obtain ⟨a1, a2, a3, a4, a5, a6⟩ := job_least hl hT hw h 0 h0
  have := (resp_le (T := T) (w := w) (b := b) (l := l) (resp_range hl hT hw h _ (Nat.le_refl _)).1 (jobsN T long)).1 (Int.le_refl _) 0 h1
  simp at this a3
  omega
/-- a task alone -/
theorem with_alone {T w D : Int} (hT : 1 ≤ T ∧ T ≤ 1000000) (hw : 1 ≤ w ∧ w ≤ 1000000) (hwD : w ≤ D) (hDT : D ≤ T) : withL T w D 0 [] = (w, 1) := by
  have hl : LdsOk [] := ⟨by simp, fun p hp => by simp at hp⟩
  have hok := hl.with (b := 0) (T := T) (w := w) (by omega) (by omega) hT (by omega)
  have hc : ceilF w T = 1 := by
    have h1 := (ceil_le (a := w) (b := T) (x := 1) (by omega) hT.1)
    have h2 := (ceil_le (a := w) (b := T) (x := 0) (by omega) hT.1)
    omega
  have hsp := least_spec hok (own_one hl hT hw (by omega))
  obtain ⟨f, hf, hfw⟩ := hsp.2 w hw.1 hw.2 (by rw [List.nil_append]; unfold sumL termL; simp [hc])
  obtain ⟨g1, g2, g3⟩ := hsp.1 f hf
  have hfe : f = w := by
    have hc1 : ceilF f T = 1 := by
      have h1 := (ceil_le (a := f) (b := T) (x := 1) (by omega) hT.1)
      have h2 := (ceil_le (a := f) (b := T) (x := 0) (by omega) hT.1)
      omega
    rw [List.nil_append] at g1
    unfold sumL termL at g1
    simp [hc1] at g1
    omega
  subst hfe
  have hj : jobsN T f = 1 := by unfold jobsN; rw [hc]; rfl
  obtain ⟨a1, a2, a3, a4, a5, a6⟩ := job_least hl hT hw hf 0 (by simp; omega)
  have hz : leastZ (0 + (0 + 1) * f) [] = f := by
    rw [sumL_nil] at a2
    have e : (0 : Int) + (((0 : Nat) : Int) + 1) * f = 0 + (0 + 1) * f := by simp
    rw [e] at a2
    rw [← a2]
    omega
  have hr : respL T f 0 [] 1 = f := by
    show max 0 (leastZ (0 + (((0 : Nat) : Int) + 1) * f) [] - ((0 : Nat) : Int) * T) = f
    simp only [Int.natCast_zero, Int.zero_mul]
    rw [hz]
    omega
  unfold withL
  rw [hf]
  simp only [hj, hr]
  rw [if_pos hwD]
end Go.Proofs.YtniejidekflmiaaGreatDoor
/- How many bits are set: the way of the library, in plain Lean. -/
namespace Go.Proofs.YtniejidekflmiaaGreatDoor

/-- how many of the first n bits are set -/
def popN (n x : Nat) : Nat := (List.range n).countP x.testBit
theorem popN_byte (n x : Nat) : popN (8 + n) x = popN 8 (x % 256) + popN n (x / 256) := by
  unfold popN
  rw [List.range_add, List.countP_append, List.countP_map]
  congr 1
  · refine List.countP_congr fun j hj => ?_
    have : j < 8 := List.mem_range.1 hj
    rw [show (256 : Nat) = 2 ^ 8 from rfl, Nat.testBit_mod_two_pow]
    simp [this]
  · refine List.countP_congr fun j _ => ?_
    show x.testBit (8 + j) = true ↔ _
    rw [← Nat.testBit_shiftRight, Nat.shiftRight_eq_div_pow]
theorem pop8_le : ∀ b : Fin 256, popN 8 b.val ≤ 8 := by decide +kernel

theorem and_digit {q r m c : Nat} (hr : r < 256) (hc : c < 256) : (256 * q + r) &&& (256 * m + c) = 256 * (q &&& m) + (r &&& c) := by
  have h : r &&& c < 2 ^ 8 := Nat.lt_of_le_of_lt Nat.and_le_left hr
  apply Nat.eq_of_testBit_eq
  intro j
  rw [Nat.testBit_and, show (256 : Nat) = 2 ^ 8 from rfl, Nat.testBit_two_pow_mul_add _ hr, Nat.testBit_two_pow_mul_add _ hc, Nat.testBit_two_pow_mul_add _ h]
  split <;> simp [Nat.testBit_and]
def rep (c : Nat) : Nat → Nat
  | 0 => 0
  | k + 1 => 256 * rep c k + c
def mapD (f : Nat → Nat) : Nat → Nat → Nat
  | 0, _ => 0
  | k + 1, x => 256 * mapD f k (x / 256) + f (x % 256)
theorem mapD_congr {f g : Nat → Nat} (h : ∀ b, b < 256 → f b = g b) : ∀ k x, mapD f k x = mapD g k x
  | 0, _ => rfl
  | k + 1, x => by
    unfold mapD
    rw [mapD_congr h k, h _ (Nat.mod_lt _ (by omega))]
theorem mapD_comp {f g : Nat → Nat} (hf : ∀ b, b < 256 → f b < 256) : ∀ k x, mapD g k (mapD f k x) = mapD (fun b => g (f b)) k x
  | 0, _ => rfl
  | k + 1, x => by
    have hb := hf (x % 256) (Nat.mod_lt _ (by omega))
    show 256 * mapD g k (mapD f (k + 1) x / 256) + g (mapD f (k + 1) x % 256) = _
    rw [show mapD f (k + 1) x = 256 * mapD f k (x / 256) + f (x % 256) from rfl, show (256 * mapD f k (x / 256) + f (x % 256)) / 256 = mapD f k (x / 256) by omega,
      show (256 * mapD f k (x / 256) + f (x % 256)) % 256 = f (x % 256) by omega, mapD_comp hf k]
    rfl
def t1 (b : Nat) : Nat := (b / 2 &&& 85) + (b &&& 85)
def t2 (b : Nat) : Nat := (b / 4 &&& 51) + (b &&& 51)
def t3 (b : Nat) : Nat := (b / 16 + b) &&& 15
theorem t1_dec : ∀ e : Fin 2, ∀ r : Fin 256, (e.val * 128 + r.val / 2) &&& 85 = (r.val / 2 &&& 85) := by decide +kernel
theorem t2_dec : ∀ e : Fin 4, ∀ r : Fin 256, (e.val * 64 + r.val / 4) &&& 51 = (r.val / 4 &&& 51) := by decide +kernel
theorem t3_dec : ∀ e : Fin 5, ∀ r : Fin 69, (e.val * 16 + r.val / 16 + r.val) &&& 15 = ((r.val / 16 + r.val) &&& 15) ∧ e.val * 16 + r.val / 16 + r.val < 256 := by decide +kernel
theorem t_pop : ∀ b : Fin 256, t3 (t2 (t1 b.val)) = popN 8 b.val ∧ t2 (t1 b.val) < 69 ∧ t2 (t1 b.val) % 16 < 5 ∧ t1 b.val < 256 := by decide +kernel
theorem st1 : ∀ k x, x < 256 ^ k → (x / 2 &&& rep 85 k) + (x &&& rep 85 k) = mapD t1 k x
  | 0, x, h => by simp [rep, mapD]
  | k + 1, x, h => by
    have hr : x % 256 < 256 := Nat.mod_lt _ (by omega)
    have hq : x / 256 < 256 ^ k := by rw [Nat.div_lt_iff_lt_mul (by omega)]; rw [Nat.pow_succ] at h; exact h
    have ih := st1 k (x / 256) hq
    show (x / 2 &&& (256 * rep 85 k + 85)) + (x &&& (256 * rep 85 k + 85)) = 256 * mapD t1 k (x / 256) + t1 (x % 256)
    rw [← ih]
    have e1 : x / 2 = 256 * (x / 256 / 2) + (x / 256 % 2 * 128 + x % 256 / 2) := by omega
    have e2 : x = 256 * (x / 256) + x % 256 := by omega
    have d := t1_dec ⟨x / 256 % 2, Nat.mod_lt _ (by omega)⟩ ⟨x % 256, hr⟩
    dsimp only at d
    have f1 : x / 2 &&& (256 * rep 85 k + 85) = 256 * (x / 256 / 2 &&& rep 85 k) + (x % 256 / 2 &&& 85) := by
      conv => lhs; rw [e1]
      rw [and_digit (by omega) (by omega), d]
    have f2 : x &&& (256 * rep 85 k + 85) = 256 * (x / 256 &&& rep 85 k) + (x % 256 &&& 85) := by
      conv => lhs; rw [e2]
      rw [and_digit (by omega) (by omega)]
    rw [f1, f2]
    unfold t1
    omega
theorem st2 : ∀ k x, x < 256 ^ k → (x / 4 &&& rep 51 k) + (x &&& rep 51 k) = mapD t2 k x
  | 0, x, h => by simp [rep, mapD]
  | k + 1, x, h => by
    have hr : x % 256 < 256 := Nat.mod_lt _ (by omega)
    have hq : x / 256 < 256 ^ k := by rw [Nat.div_lt_iff_lt_mul (by omega)]; rw [Nat.pow_succ] at h; exact h
    have ih := st2 k (x / 256) hq
    show (x / 4 &&& (256 * rep 51 k + 51)) + (x &&& (256 * rep 51 k + 51)) = 256 * mapD t2 k (x / 256) + t2 (x % 256)
    rw [← ih]
    have e1 : x / 4 = 256 * (x / 256 / 4) + (x / 256 % 4 * 64 + x % 256 / 4) := by omega
    have e2 : x = 256 * (x / 256) + x % 256 := by omega
    have d := t2_dec ⟨x / 256 % 4, Nat.mod_lt _ (by omega)⟩ ⟨x % 256, hr⟩
    dsimp only at d
    have f1 : x / 4 &&& (256 * rep 51 k + 51) = 256 * (x / 256 / 4 &&& rep 51 k) + (x % 256 / 4 &&& 51) := by
      conv => lhs; rw [e1]
      rw [and_digit (by omega) (by omega), d]
    have f2 : x &&& (256 * rep 51 k + 51) = 256 * (x / 256 &&& rep 51 k) + (x % 256 &&& 51) := by
      conv => lhs; rw [e2]
      rw [and_digit (by omega) (by omega)]
    rw [f1, f2]
    unfold t2
    omega
/-- each digit is small -/
def smallD (f : Nat → Nat) : Prop := ∀ b, b < 256 → f b < 69 ∧ f b % 16 < 5
theorem mapD_low {f : Nat → Nat} (hf : smallD f) : ∀ k x, mapD f k x % 16 < 5
  | 0, x => by simp [mapD]
  | k + 1, x => by
    have := (hf (x % 256) (Nat.mod_lt _ (by omega))).2
    unfold mapD
    omega
theorem st3 {f : Nat → Nat} (hf : smallD f) : ∀ k x, (mapD f k x / 16 + mapD f k x) &&& rep 15 k = mapD (fun b => t3 (f b)) k x
  | 0, x => by simp [rep, mapD]
  | k + 1, x => by
    have ih := st3 hf k (x / 256)
    have h1 := mapD_low hf k (x / 256)
    have h2 := hf (x % 256) (Nat.mod_lt _ (by omega))
    show (mapD f (k + 1) x / 16 + mapD f (k + 1) x) &&& (256 * rep 15 k + 15) = 256 * mapD (fun b => t3 (f b)) k (x / 256) + t3 (f (x % 256))
    rw [show mapD f (k + 1) x = 256 * mapD f k (x / 256) + f (x % 256) from rfl]
    generalize mapD f k (x / 256) = q at *
    generalize f (x % 256) = r at *
    have d := t3_dec ⟨q % 16, h1⟩ ⟨r, h2.1⟩
    dsimp only at d
    have e : (256 * q + r) / 16 + (256 * q + r) = 256 * (q / 16 + q) + (q % 16 * 16 + r / 16 + r) := by omega
    rw [e, and_digit (by omega) (by omega), ih, d.1]
    rfl
theorem all_steps (k x : Nat) (_h : x < 256 ^ k) : ((mapD t2 k (mapD t1 k x)) / 16 + mapD t2 k (mapD t1 k x)) &&& rep 15 k = mapD (popN 8) k x := by
  rw [mapD_comp (f := t1) (g := t2) (fun b hb => (t_pop ⟨b, hb⟩).2.2.2)]
  rw [st3 (f := fun b => t2 (t1 b)) (fun b hb => ⟨(t_pop ⟨b, hb⟩).2.1, (t_pop ⟨b, hb⟩).2.2.1⟩)]
  exact mapD_congr (fun b hb => (t_pop ⟨b, hb⟩).1) k x
theorem div1 {a b : Nat} (h : a < 256) : (a + 256 * b) / 256 = b := by omega
theorem div2 {a b c : Nat} (h : a < 256) (h' : b < 256) : (a + 256 * (b + 256 * c)) / 65536 = c := by omega
theorem div4 {a b c d e : Nat} (h : a < 256) (h' : b < 256) (h2 : c < 256) (h3 : d < 256) : (a + 256 * (b + 256 * (c + 256 * (d + 256 * e)))) / 4294967296 = e := by omega
theorem mod128 {a b : Nat} (h : a < 128) : (a + 256 * b) % 128 = a := by omega
theorem dadd (a b u v : Nat) : a + 256 * u + (b + 256 * v) = (a + b) + 256 * (u + v) := by omega
theorem dadd0 (a b u : Nat) : a + 256 * u + b = (a + b) + 256 * u := by omega
theorem dle {a b A B : Nat} (h : a ≤ A) (k : b ≤ B) : a + 256 * b ≤ A + 256 * B := by omega
theorem fold_bytes {p0 p1 p2 p3 p4 p5 p6 p7 : Nat} (h0 : p0 ≤ 8) (h1 : p1 ≤ 8) (h2 : p2 ≤ 8) (h3 : p3 ≤ 8) (h4 : p4 ≤ 8) (h5 : p5 ≤ 8) (h6 : p6 ≤ 8) (h7 : p7 ≤ 8) {y z1 z2 z3 : Nat}
    (hy : y = p0 + 256 * (p1 + 256 * (p2 + 256 * (p3 + 256 * (p4 + 256 * (p5 + 256 * (p6 + 256 * p7))))))) (e1 : z1 = y + y / 256) (e2 : z2 = z1 + z1 / 65536) (e3 : z3 = z2 + z2 / 4294967296) :
    z3 % 128 = p0 + p1 + p2 + p3 + p4 + p5 + p6 + p7 ∧ y < 2305843009213693952 ∧ z1 < 4611686018427387904 ∧ z2 < 9223372036854775808 ∧ z3 < 18446744073709551616 := by
  revert hy e1 e2 e3
  have a0 : p0 + p1 ≤ 16 := by omega
  have a1 : p1 + p2 ≤ 16 := by omega
  have a2 : p2 + p3 ≤ 16 := by omega
  have a3 : p3 + p4 ≤ 16 := by omega
  have a4 : p4 + p5 ≤ 16 := by omega
  have a5 : p5 + p6 ≤ 16 := by omega
  have a6 : p6 + p7 ≤ 16 := by omega
  have b0 : p0 + p1 + (p2 + p3) ≤ 32 := by omega
  have b1 : p1 + p2 + (p3 + p4) ≤ 32 := by omega
  have b2 : p2 + p3 + (p4 + p5) ≤ 32 := by omega
  have b3 : p3 + p4 + (p5 + p6) ≤ 32 := by omega
  have b4 : p4 + p5 + (p6 + p7) ≤ 32 := by omega
  have b5 : p5 + p6 + p7 ≤ 32 := by omega
  have b6 : p6 + p7 ≤ 32 := by omega
  have c0 : p0 + p1 + (p2 + p3) + (p4 + p5 + (p6 + p7)) ≤ 64 := by omega
  have c1 : p1 + p2 + (p3 + p4) + (p5 + p6 + p7) ≤ 64 := by omega
  have c2 : p2 + p3 + (p4 + p5) + (p6 + p7) ≤ 64 := by omega
  have c3 : p3 + p4 + (p5 + p6) + p7 ≤ 64 := by omega
  have c4 : p4 + p5 + (p6 + p7) ≤ 64 := by omega
  have c5 : p5 + p6 + p7 ≤ 64 := by omega
  have c6 : p6 + p7 ≤ 64 := by omega
  have tot : p0 + p1 + (p2 + p3) + (p4 + p5 + (p6 + p7)) = p0 + p1 + p2 + p3 + p4 + p5 + p6 + p7 := by omega
  intro hy e1 e2 e3
  have f1 : z1 = (p0 + p1) + 256 * ((p1 + p2) + 256 * ((p2 + p3) + 256 * ((p3 + p4) + 256 * ((p4 + p5) + 256 * ((p5 + p6) + 256 * ((p6 + p7) + 256 * p7)))))) := by
    rw [e1, hy, div1 (Nat.lt_of_le_of_lt h0 (by decide)), dadd, dadd, dadd, dadd, dadd, dadd, dadd0]
  have f2 : z2 = (p0 + p1 + (p2 + p3)) + 256 * ((p1 + p2 + (p3 + p4)) + 256 * ((p2 + p3 + (p4 + p5)) + 256 * ((p3 + p4 + (p5 + p6)) + 256 * ((p4 + p5 + (p6 + p7)) + 256 * ((p5 + p6 + p7) + 256 * ((p6 + p7) + 256 * p7)))))) := by
    rw [e2, f1, div2 (Nat.lt_of_le_of_lt a0 (by decide)) (Nat.lt_of_le_of_lt a1 (by decide)), dadd, dadd, dadd, dadd, dadd, dadd0]
  have f3 : z3 = (p0 + p1 + (p2 + p3) + (p4 + p5 + (p6 + p7))) + 256 * ((p1 + p2 + (p3 + p4) + (p5 + p6 + p7)) + 256 * ((p2 + p3 + (p4 + p5) + (p6 + p7)) + 256 * ((p3 + p4 + (p5 + p6) + p7) + 256 * ((p4 + p5 + (p6 + p7)) + 256 * ((p5 + p6 + p7) + 256 * ((p6 + p7) + 256 * p7)))))) := by
    rw [e3, f2, div4 (Nat.lt_of_le_of_lt b0 (by decide)) (Nat.lt_of_le_of_lt b1 (by decide)) (Nat.lt_of_le_of_lt b2 (by decide)) (Nat.lt_of_le_of_lt b3 (by decide)), dadd, dadd, dadd, dadd0]
  clear e1 e2 e3
  refine ⟨?_, ?_, ?_, ?_, ?_⟩
  · rw [f3, mod128 (Nat.lt_of_le_of_lt c0 (by decide))]
    exact tot
  · rw [hy]
    exact Nat.lt_of_le_of_lt (dle h0 (dle h1 (dle h2 (dle h3 (dle h4 (dle h5 (dle h6 h7))))))) (by decide)
  · rw [f1]
    exact Nat.lt_of_le_of_lt (dle a0 (dle a1 (dle a2 (dle a3 (dle a4 (dle a5 (dle a6 h7))))))) (by decide)
  · rw [f2]
    exact Nat.lt_of_le_of_lt (dle b0 (dle b1 (dle b2 (dle b3 (dle b4 (dle b5 (dle b6 h7))))))) (by decide)
  · rw [f3]
    exact Nat.lt_of_le_of_lt (dle c0 (dle c1 (dle c2 (dle c3 (dle c4 (dle c5 (dle c6 h7))))))) (by decide)
theorem popN_last (z : Nat) : popN 8 z = popN 8 (z % 256) := by
  have h := popN_byte 0 z
  have h0 : popN 0 (z / 256) = 0 := rfl
  rw [h0] at h
  exact h
/-- the whole way: from the third step's number on -/
theorem ones_end (x : Nat) {y z1 z2 z3 : Nat} (hy : y = mapD (popN 8) 8 x) (e1 : z1 = y + y / 256) (e2 : z2 = z1 + z1 / 65536) (e3 : z3 = z2 + z2 / 4294967296) :
    z3 % 128 = popN 64 x ∧ y < 2305843009213693952 ∧ z1 < 4611686018427387904 ∧ z2 < 9223372036854775808 ∧ z3 < 18446744073709551616 := by
  have le : ∀ b, popN 8 (b % 256) ≤ 8 := fun b => pop8_le ⟨b % 256, Nat.mod_lt _ (by omega)⟩
  have hp : popN 64 x = popN 8 (x % 256) + (popN 8 (x / 256 % 256) + (popN 8 (x / 256 / 256 % 256) + (popN 8 (x / 256 / 256 / 256 % 256) + (popN 8 (x / 256 / 256 / 256 / 256 % 256) + (popN 8 (x / 256 / 256 / 256 / 256 / 256 % 256) + (popN 8 (x / 256 / 256 / 256 / 256 / 256 / 256 % 256) + popN 8 (x / 256 / 256 / 256 / 256 / 256 / 256 / 256 % 256))))))) := by
    rw [popN_byte 56, popN_byte 48, popN_byte 40, popN_byte 32, popN_byte 24, popN_byte 16, popN_byte 8, ← popN_last (x / 256 / 256 / 256 / 256 / 256 / 256 / 256)]
  have hm : mapD (popN 8) 8 x = popN 8 (x % 256) + 256 * (popN 8 (x / 256 % 256) + 256 * (popN 8 (x / 256 / 256 % 256) + 256 * (popN 8 (x / 256 / 256 / 256 % 256) + 256 * (popN 8 (x / 256 / 256 / 256 / 256 % 256) + 256 * (popN 8 (x / 256 / 256 / 256 / 256 / 256 % 256) + 256 * (popN 8 (x / 256 / 256 / 256 / 256 / 256 / 256 % 256) + 256 * popN 8 (x / 256 / 256 / 256 / 256 / 256 / 256 / 256 % 256))))))) := by
    simp only [mapD, Nat.mul_zero, Nat.zero_add, Nat.add_comm]
  have h := fold_bytes (le _) (le _) (le _) (le _) (le _) (le _) (le _) (le _) (hy.trans hm) e1 e2 e3
  refine ⟨?_, h.2⟩
  rw [hp, h.1]
  simp only [Nat.add_assoc]
end Go.Proofs.YtniejidekflmiaaGreatDoor
/- Whole numbers as float64: there and back. -/
namespace Go.Proofs.YtniejidekflmiaaGreatDoor
open Ieee

theorem cut_zero (neg : Bool) (n : Nat) : Toward.even.cut neg n 0 = n := by
  simp [Toward.cut, Nat.mod_one]
/-- the word of a whole number -/
def fl (n : Nat) : Nat := Format.write double (.number false n 0)
theorem fl_zero : fl 0 = 0 := by decide +kernel
theorem fl_log {n : Nat} (h0 : 0 < n) (h : n ≤ 1099511627776) : n.log2 ≤ 40 ∧ 2 ^ n.log2 ≤ n ∧ n < 2 ^ (n.log2 + 1) := by
  have h1 : n.log2 < 41 := (Nat.log2_lt (by omega)).2 (Nat.lt_of_le_of_lt h (by decide))
  exact ⟨by omega, Nat.log2_self_le (by omega), Nat.lt_log2_self⟩
/-- scaled: a number of 53 digits -/
theorem fl_mag {n : Nat} (h0 : 0 < n) (h : n ≤ 1099511627776) : 4503599627370496 ≤ n * 2 ^ (52 - n.log2) ∧ n * 2 ^ (52 - n.log2) < 9007199254740992 := by
  obtain ⟨hL, h1, h2⟩ := fl_log h0 h
  have e : (2 : Nat) ^ n.log2 * 2 ^ (52 - n.log2) = 4503599627370496 := by rw [← Nat.pow_add, show n.log2 + (52 - n.log2) = 52 by omega]
  have e2 : (2 : Nat) ^ (n.log2 + 1) * 2 ^ (52 - n.log2) = 9007199254740992 := by rw [← Nat.pow_add, show n.log2 + 1 + (52 - n.log2) = 53 by omega]
  have hp : 0 < 2 ^ (52 - n.log2) := Nat.two_pow_pos _
  exact ⟨by rw [← e]; exact Nat.mul_le_mul_right _ h1, by rw [← e2]; exact Nat.mul_lt_mul_of_pos_right h2 hp⟩
theorem fl_word {n : Nat} (h0 : 0 < n) (h : n ≤ 1099511627776) : fl n = (n.log2 + 1022) * 4503599627370496 + n * 2 ^ (52 - n.log2) := by
  obtain ⟨hL, _, _⟩ := fl_log h0 h
  obtain ⟨hm1, hm2⟩ := fl_mag h0 h
  have hlp : double.leastPlace = -1074 := by decide
  have hb : double.binade = 4503599627370496 := by decide
  have hi : double.infRung = 9218868437227405312 := by decide
  show (if n = 0 then double.word false 0 else double.word false (min ((max ((0 : Int) + (n.log2 : Nat) - (double.fractionBits : Nat)) double.leastPlace - double.leastPlace).toNat * double.binade + Toward.even.cut false (n <<< ((0 : Int) - max ((0 : Int) + (n.log2 : Nat) - (double.fractionBits : Nat)) double.leastPlace).toNat) (max ((0 : Int) + (n.log2 : Nat) - (double.fractionBits : Nat)) double.leastPlace - 0).toNat) double.infRung)) = _
  rw [if_neg (by omega), hlp, hb, hi, show double.fractionBits = 52 from rfl]
  have e1 : max ((0 : Int) + (n.log2 : Nat) - (52 : Nat)) (-1074) = (n.log2 : Int) - 52 := by omega
  rw [e1]
  rw [show ((n.log2 : Int) - 52 - 0).toNat = 0 by omega, cut_zero, show ((0 : Int) - ((n.log2 : Int) - 52)).toNat = 52 - n.log2 by omega, show ((n.log2 : Int) - 52 - -1074).toNat = n.log2 + 1022 by omega, Nat.shiftLeft_eq]
  unfold Format.word
  simp only [Bool.false_eq_true, if_false]
  omega
theorem fl_read {n : Nat} (h0 : 0 < n) (h : n ≤ 1099511627776) : Format.read double (fl n) = .number false (n * 2 ^ (52 - n.log2)) ((n.log2 : Int) - 52) := by
  obtain ⟨hL, _, _⟩ := fl_log h0 h
  obtain ⟨hm1, hm2⟩ := fl_mag h0 h
  rw [fl_word h0 h]
  have hlp : double.leastPlace = -1074 := by decide
  have hb : double.binade = 4503599627370496 := by decide
  have hi : double.infRung = 9218868437227405312 := by decide
  have hs : double.signWeight = 9223372036854775808 := by decide
  generalize n * 2 ^ (52 - n.log2) = m at *
  generalize n.log2 = L at *
  unfold Format.read
  simp only [hlp, hb, hi, hs]
  have d1 : ((L + 1022) * 4503599627370496 + m) / 9223372036854775808 = 0 := by omega
  have d2 : ((L + 1022) * 4503599627370496 + m) % 9223372036854775808 = (L + 1022) * 4503599627370496 + m := by omega
  rw [d1, d2, if_neg (by omega), if_pos (by omega)]
  have d3 : ((L + 1022) * 4503599627370496 + m) % 4503599627370496 = m - 4503599627370496 := by omega
  have d4 : ((L + 1022) * 4503599627370496 + m) / 4503599627370496 = L + 1023 := by omega
  rw [d3, d4]
  simp only [Datum.number.injEq]
  refine ⟨by decide, by omega, by omega⟩
theorem fl_whole {n : Nat} (h : n ≤ 1099511627776) : (Format.read double (fl n)).integral .zero = .number false n 0 := by
  rcases Nat.eq_zero_or_pos n with rfl | h0
  · decide +kernel
  · rw [fl_read h0 h]
    obtain ⟨hL, _, _⟩ := fl_log h0 h
    obtain ⟨hm1, hm2⟩ := fl_mag h0 h
    show Datum.number false (Toward.zero.cut false ((n * 2 ^ (52 - n.log2)) <<< ((n.log2 : Int) - 52).toNat) (-((n.log2 : Int) - 52)).toNat) 0 = _
    rw [show ((n.log2 : Int) - 52).toNat = 0 by omega, show (-((n.log2 : Int) - 52)).toNat = 52 - n.log2 by omega, Nat.shiftLeft_zero]
    have hl : 52 ≤ (n * 2 ^ (52 - n.log2)).log2 := (Nat.le_log2 (by omega)).2 (Nat.le_trans (by decide) hm1)
    show Datum.number false (n * 2 ^ (52 - n.log2) / (1 <<< min (52 - n.log2) ((n * 2 ^ (52 - n.log2)).log2 + 2)) + 0) 0 = _
    rw [Nat.min_eq_left (by omega), Nat.shiftLeft_eq, Nat.one_mul, Nat.mul_div_cancel _ (Nat.two_pow_pos _), Nat.add_zero]
theorem fl_trunc {n : Nat} (h : n ≤ 1099511627776) : FloatKind.f64.encode ((FloatKind.f64.decode (fl n)).integral .zero) = fl n := by
  show Format.write double ((Format.read double (fl n)).integral .zero) = fl n
  rw [fl_whole h]
  rfl
theorem fl_int {n : Nat} (h : n ≤ 1099511627776) : (FloatKind.f64.decode (fl n)).toInt .zero = some (n : Int) := by
  show (match (Format.read double (fl n)).integral .zero with | .number s m _ => some (signed s m 0) | _ => none) = _
  rw [fl_whole h]
  simp [signed]
theorem fl_scaled {n : Nat} (h : n ≤ 1099511627776) : ∃ m i, Format.read double (fl n) = .number false m i ∧ -1074 ≤ i ∧ ∀ base : Int, base ≤ i → -1074 ≤ base → m <<< (i - base).toNat = n * 2 ^ (-base).toNat := by
  rcases Nat.eq_zero_or_pos n with rfl | h0
  · exact ⟨0, -1074, by decide +kernel, by omega, fun base h1 h2 => by simp [Nat.shiftLeft_eq]⟩
  · obtain ⟨hL, _, _⟩ := fl_log h0 h
    refine ⟨_, _, fl_read h0 h, by omega, fun base h1 h2 => ?_⟩
    rw [Nat.shiftLeft_eq, Nat.mul_assoc, ← Nat.pow_add]
    congr 2
    omega
theorem fl_order {a b : Nat} (ha : a ≤ 1099511627776) (hb : b ≤ 1099511627776) : double.order (fl a) (fl b) = some (compare a b) := by
  obtain ⟨m, i, e1, i1, h1⟩ := fl_scaled ha
  obtain ⟨k, j, e2, j1, h2⟩ := fl_scaled hb
  unfold Format.order
  rw [e1, e2]
  show some (compare ((m <<< (i - min i j).toNat : Nat) : Int) ((k <<< (j - min i j).toNat : Nat) : Int)) = _
  rw [h1 (min i j) (by omega) (by omega), h2 (min i j) (by omega) (by omega)]
  have hp : 0 < 2 ^ (-min i j).toNat := Nat.two_pow_pos _
  generalize 2 ^ (-min i j).toNat = c at *
  congr 1
  rcases Nat.lt_trichotomy a b with h | rfl | h
  · have h3 : a * c < b * c := Nat.mul_lt_mul_of_pos_right h hp
    rw [show compare a b = .lt from Nat.compare_eq_lt.2 h]
    simp only [compare, compareOfLessAndEq]
    rw [if_pos (by omega)]
  · rw [show compare a a = .eq from Nat.compare_eq_eq.2 rfl]
    simp only [compare, compareOfLessAndEq]
    rw [if_neg (by omega)]
    simp
  · have h3 : b * c < a * c := Nat.mul_lt_mul_of_pos_right h hp
    rw [show compare a b = .gt from Nat.compare_eq_gt.2 h]
    simp only [compare, compareOfLessAndEq]
    rw [if_neg (by omega), if_neg (by omega)]
end Go.Proofs.YtniejidekflmiaaGreatDoor
