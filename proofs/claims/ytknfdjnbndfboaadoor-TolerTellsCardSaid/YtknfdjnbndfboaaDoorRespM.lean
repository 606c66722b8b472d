/- How long a job takes at most: in plain Lean. -/
import Derived.Test.YtknfdjnbndfboaaDoorNumM
import Derived.Test.YtknfdjnbndfboaaDoorFixM
import Derived.WalkKit
namespace Go.Proofs.YtknfdjnbndfboaaDoor

theorem sum_append (base : Int) (l : List Ld) (p : Ld) (x : Int) : sumL base (l ++ [p]) x = sumL base l x + termL x p := by
  unfold sumL
  rw [List.map_append, List.sum_append]
  simp
  omega
/-- the least number, or 0 -/
def leastZ (base : Int) (l : List Ld) : Int := (least base l).getD 0
/-- the greatest bound of the first jobs -/
def respL (T w b : Int) (l : List Ld) : Nat → Int
  | 0 => 0
  | q + 1 => max (respL T w b l q) (leastZ (b + (q + 1) * w) l - q * T)
/-- how many jobs there are within a time -/
def jobsN (T long : Int) : Nat := (ceilF long T).toNat
theorem jobs_iff {T long : Int} (hT : 1 ≤ T) (hl : 0 ≤ long) (q : Nat) : q < jobsN T long ↔ (q : Int) * T < long := by
  unfold jobsN
  have h := ceil_le (a := long) (b := T) (x := q) hl hT
  have h0 := ceil_nonneg hl hT
  constructor
  · intro hq
    apply Int.not_le.1
    intro hc
    have := h.2 hc
    omega
  · intro hq
    have := fun hc => Int.not_le.2 hq (h.1 hc)
    omega
def withL (T w D b : Int) (l : List Ld) : Int × Int :=
  match least b (l ++ [(T, w)]) with
  | none => (0, 3)
  | some long => (respL T w b l (jobsN T long), if respL T w b l (jobsN T long) ≤ D then 1 else 2)

/-- loads as they may be -/
structure LdsOk (l : List Ld) : Prop where
  len : l.length ≤ 60
  each : ∀ p ∈ l, (1 ≤ p.1 ∧ p.1 ≤ 1000000) ∧ 0 ≤ p.2 ∧ p.2 ≤ 1000000
theorem LdsOk.two {l : List Ld} (h : LdsOk l) : ∀ p ∈ l, 1 ≤ p.1 ∧ 0 ≤ p.2 := fun p hp => ⟨(h.each p hp).1.1, (h.each p hp).2.1⟩
theorem LdsOk.ok {l : List Ld} (h : LdsOk l) {b : Int} (h0 : 0 ≤ b) (h1 : b ≤ 1000000) : OkL b l := ⟨h0, h1, by have := h.len; omega, h.each⟩
theorem LdsOk.with {l : List Ld} (h : LdsOk l) {b T w : Int} (h0 : 0 ≤ b) (h1 : b ≤ 1000000) (hT : 1 ≤ T ∧ T ≤ 1000000) (hw : 0 ≤ w ∧ w ≤ 1000000) : OkL b (l ++ [(T, w)]) := by
  refine ⟨h0, h1, by have := h.len; simp; omega, fun p hp => ?_⟩
  rcases List.mem_append.1 hp with hp | hp
  · exact h.each p hp
  · rw [List.mem_singleton] at hp
    subst hp
    exact ⟨hT, hw⟩
theorem sum_nonneg {l : List Ld} (hl : ∀ p ∈ l, 1 ≤ p.1 ∧ 0 ≤ p.2) {base x : Int} (hx : 0 ≤ x) : base ≤ sumL base l x := by
  unfold sumL
  have : 0 ≤ (l.map (termL x)).sum := by
    induction l with
    | nil => simp
    | cons p l ih =>
      simp only [List.map_cons, List.sum_cons]
      have h1 := ih (fun q hq => hl q (List.mem_cons_of_mem _ hq))
      have hp := hl p List.mem_cons_self
      have h2 : 0 ≤ termL x p := Int.mul_nonneg hp.2 (ceil_nonneg hx hp.1)
      omega
  omega
/-- what the least number is -/
theorem least_spec {base : Int} {l : List Ld} (hok : OkL base l) (h1 : 1 ≤ sumL base l 1) :
    (∀ f, least base l = some f → sumL base l f = f ∧ 1 ≤ f ∧ f ≤ 1000000) ∧ ∀ x, 1 ≤ x → x ≤ 1000000 → sumL base l x ≤ x → ∃ f, least base l = some f ∧ f ≤ x := by
  have h := leastW_spec (base := base) (l := l) (fun p hp => ⟨(hok.each p hp).1.1, (hok.each p hp).2.1⟩) _ 1 rfl (by omega) (by omega) h1
  unfold least
  rw [if_pos (okB_iff.2 hok)]
  exact h
theorem least_ok {base : Int} {l : List Ld} {f : Int} (h : least base l = some f) : OkL base l := by
  unfold least at h
  split at h
  · rename_i hb; exact okB_iff.1 hb
  · cases h
/-- with a base of 1 or more: the least one does not pass any that its sum does not pass -/
theorem leastZ_spec {base : Int} {l : List Ld} (hl : LdsOk l) (h1 : 1 ≤ base) {x : Int} (hx : 1 ≤ x) (hx1 : x ≤ 1000000) (hs : sumL base l x ≤ x) :
    least base l = some (leastZ base l) ∧ sumL base l (leastZ base l) = leastZ base l ∧ base ≤ leastZ base l ∧ leastZ base l ≤ x ∧ ∀ y, 0 ≤ y → sumL base l y ≤ y → leastZ base l ≤ y := by
  have hb := sum_nonneg hl.two (base := base) (x := x) (by omega)
  have hok := hl.ok (b := base) (by omega) (by omega)
  have hsp := least_spec hok (Int.le_trans h1 (sum_nonneg hl.two (by omega)))
  obtain ⟨f, hf, hfx⟩ := hsp.2 x hx hx1 hs
  have hz : leastZ base l = f := by unfold leastZ; rw [hf]; rfl
  rw [hz]
  obtain ⟨h3, h4, h5⟩ := hsp.1 f hf
  have h6 := sum_nonneg hl.two (base := base) (x := f) (by omega)
  refine ⟨hf, h3, by omega, hfx, fun y hy hyy => ?_⟩
  by_cases hy0 : y = 0
  · have := sum_nonneg hl.two (base := base) (x := y) (by omega)
    omega
  · by_cases hy1 : y ≤ 1000000
    · obtain ⟨g, hg, hgy⟩ := hsp.2 y (by omega) hy1 hyy
      rw [hf] at hg
      cases hg
      exact hgy
    · omega
/-- within a busy time the first jobs are done -/
theorem busy_job {T w b long : Int} {l : List Ld} (hl : LdsOk l) (hT : 1 ≤ T ∧ T ≤ 1000000) (hw : 1 ≤ w ∧ w ≤ 1000000) (h : least b (l ++ [(T, w)]) = some long) :
    0 ≤ b ∧ b ≤ 1000000 ∧ 1 ≤ long ∧ long ≤ 1000000 ∧ ∀ q : Nat, (q : Int) * T < long → sumL (b + (q + 1) * w) l long ≤ long := by
  have hok := least_ok h
  have h1 : 1 ≤ sumL b (l ++ [(T, w)]) 1 := by
    rw [sum_append]
    have h2 := sum_nonneg hl.two (base := b) (x := 1) (by omega)
    have h3 : 1 ≤ ceilF 1 T := by
      have := (ceil_le (a := 1) (b := T) (x := 0) (by omega) hT.1)
      omega
    have h4 : w * 1 ≤ w * ceilF 1 T := Int.mul_le_mul_of_nonneg_left h3 (by omega)
    have h5 := hok.base0
    show 1 ≤ sumL b l 1 + w * ceilF 1 T
    omega
  obtain ⟨h2, h3, h4⟩ := (least_spec hok h1).1 long h
  refine ⟨hok.base0, hok.base1, h3, h4, fun q hq => ?_⟩
  rw [sum_append] at h2
  have h5 : (q : Int) + 1 ≤ ceilF long T := by
    have := (ceil_le (a := long) (b := T) (x := q) (by omega) hT.1)
    omega
  have h6 : w * (q + 1) ≤ w * ceilF long T := Int.mul_le_mul_of_nonneg_left h5 (by omega)
  rw [sum_base] at h2 ⊢
  rw [Int.mul_comm w] at h6
  have h7 : termL long (T, w) = w * ceilF long T := rfl
  omega
/-- each of these jobs' least number -/
theorem job_least {T w b long : Int} {l : List Ld} (hl : LdsOk l) (hT : 1 ≤ T ∧ T ≤ 1000000) (hw : 1 ≤ w ∧ w ≤ 1000000) (h : least b (l ++ [(T, w)]) = some long) (q : Nat) (hq : (q : Int) * T < long) :
    least (b + (q + 1) * w) l = some (leastZ (b + (q + 1) * w) l) ∧ sumL (b + (q + 1) * w) l (leastZ (b + (q + 1) * w) l) = leastZ (b + (q + 1) * w) l ∧ b + (q + 1) * w ≤ leastZ (b + (q + 1) * w) l ∧ leastZ (b + (q + 1) * w) l ≤ long ∧ 1 ≤ b + (q + 1) * w ∧
    ∀ y, 0 ≤ y → sumL (b + (q + 1) * w) l y ≤ y → leastZ (b + (q + 1) * w) l ≤ y := by
  obtain ⟨h1, h2, h3, h4, h5⟩ := busy_job hl hT hw h
  have h6 : 1 * w ≤ ((q : Int) + 1) * w := Int.mul_le_mul_of_nonneg_right (by omega) (by omega)
  have h7 : 1 ≤ b + (q + 1) * w := by omega
  obtain ⟨a, b, c, d, e⟩ := leastZ_spec hl h7 h3 h4 (h5 q hq)
  exact ⟨a, b, c, d, h7, e⟩
/-- where the program looks for it from: 1, then the one before -/
def fromF (w b : Int) (l : List Ld) : Nat → Int
  | 0 => 1
  | q + 1 => leastZ (b + (q + 1) * w) l
theorem done_job {T w b long : Int} {l : List Ld} (hl : LdsOk l) (hT : 1 ≤ T ∧ T ≤ 1000000) (hw : 1 ≤ w ∧ w ≤ 1000000) (h : least b (l ++ [(T, w)]) = some long) (q : Nat) (hq : (q : Int) * T < long) :
    doneW (b + (q + 1) * w) l (fromF w b l q) = leastZ (b + (q + 1) * w) l := by
  obtain ⟨_, _, h3, h4, _⟩ := busy_job hl hT hw h
  obtain ⟨a1, a2, a3, a4, a5, a6⟩ := job_least hl hT hw h q hq
  have hf : 0 ≤ fromF w b l q ∧ fromF w b l q ≤ leastZ (b + (q + 1) * w) l := by
    cases q with
    | zero => exact ⟨by show (0 : Int) ≤ 1; omega, by show (1 : Int) ≤ _; omega⟩
    | succ p =>
      have hp : (p : Int) * T < long := by
        have : ((p + 1 : Nat) : Int) * T = p * T + T := by rw [Int.natCast_add, Int.add_mul]; omega
        omega
      obtain ⟨b1, b2, b3, b4, b5, b6⟩ := job_least hl hT hw h p hp
      refine ⟨by show 0 ≤ leastZ (b + (p + 1) * w) l; omega, b6 _ (by omega) ?_⟩
      rw [sum_base] at a2 ⊢
      have : ((p : Int) + 1) * w ≤ ((p + 1 : Nat) + 1) * w := Int.mul_le_mul_of_nonneg_right (by omega) (by omega)
      omega
  exact doneW_spec hl.two a2 (by omega) a6 _ _ rfl hf.1 hf.2
theorem resp_range {T w b long : Int} {l : List Ld} (hl : LdsOk l) (hT : 1 ≤ T ∧ T ≤ 1000000) (hw : 1 ≤ w ∧ w ≤ 1000000) (h : least b (l ++ [(T, w)]) = some long) (q : Nat) (hq : q ≤ jobsN T long) :
    0 ≤ respL T w b l q ∧ respL T w b l q ≤ 1000000 := by
  obtain ⟨_, _, h3, h4, _⟩ := busy_job hl hT hw h
  induction q with
  | zero => exact ⟨Int.le_refl _, by show (0 : Int) ≤ _; omega⟩
  | succ q ih =>
    have hq1 := (jobs_iff hT.1 (show 0 ≤ long by omega) q).1 hq
    obtain ⟨a1, a2, a3, a4, a5, a6⟩ := job_least hl hT hw h q hq1
    have := ih (by omega)
    have h0 : 0 ≤ (q : Int) * T := Int.mul_nonneg (by omega) (by omega)
    show 0 ≤ max (respL T w b l q) (leastZ (b + (q + 1) * w) l - q * T) ∧ max (respL T w b l q) (leastZ (b + (q + 1) * w) l - q * T) ≤ 1000000
    omega
/-- numbers of a job: none is too great -/
theorem job_range {T w b long : Int} {l : List Ld} (hl : LdsOk l) (hT : 1 ≤ T ∧ T ≤ 1000000) (hw : 1 ≤ w ∧ w ≤ 1000000) (h : least b (l ++ [(T, w)]) = some long) (q : Nat) (hq : (q : Int) * T < long) :
    q < 1000000 ∧ 0 ≤ (q : Int) * T ∧ (q : Int) * T < 1000000 ∧ 1 ≤ ((q : Int) + 1) * w ∧ ((q : Int) + 1) * w ≤ 1000000 ∧ b + ((q : Int) + 1) * w ≤ 1000000 := by
  obtain ⟨h1, _, h3, h4, _⟩ := busy_job hl hT hw h
  obtain ⟨a1, a2, a3, a4, a5, a6⟩ := job_least hl hT hw h q hq
  have h0 : (q : Int) * 1 ≤ (q : Int) * T := Int.mul_le_mul_of_nonneg_left hT.1 (by omega)
  have h6 : 1 * w ≤ ((q : Int) + 1) * w := Int.mul_le_mul_of_nonneg_right (by omega) (by omega)
  omega

theorem resp_le {T w b : Int} {l : List Ld} {D : Int} (hD : 0 ≤ D) (n : Nat) : respL T w b l n ≤ D ↔ ∀ q < n, leastZ (b + (q + 1) * w) l - q * T ≤ D := by
  induction n with
  | zero => exact ⟨fun _ q hq => by omega, fun _ => hD⟩
  | succ n ih =>
    show max (respL T w b l n) (leastZ (b + (n + 1) * w) l - n * T) ≤ D ↔ _
    constructor
    · intro h q hq
      by_cases hqn : q = n
      · subst hqn; omega
      · exact ih.1 (by omega) q (by omega)
    · intro h
      have h1 := ih.2 (fun q hq => h q (by omega))
      have h2 := h n (by omega)
      omega
/-- accepted -/
def accP (T w D b : Int) (l : List Ld) : Prop := ∃ long, least b (l ++ [(T, w)]) = some long ∧ ∀ q : Nat, (q : Int) * T < long → leastZ (b + (q + 1) * w) l - q * T ≤ D
theorem acc_iff {T w D b : Int} {l : List Ld} (hl : LdsOk l) (hT : 1 ≤ T ∧ T ≤ 1000000) (hw : 1 ≤ w ∧ w ≤ 1000000) (hD : 0 ≤ D) : (withL T w D b l).2 = 1 ↔ accP T w D b l := by
  unfold withL accP
  cases h : least b (l ++ [(T, w)]) with
  | none => simp
  | some long =>
    obtain ⟨_, _, h3, h4, _⟩ := busy_job hl hT hw h
    simp only [Option.some.injEq, exists_eq_left']
    rw [show (if respL T w b l (jobsN T long) ≤ D then (1 : Int) else 2) = 1 ↔ respL T w b l (jobsN T long) ≤ D by split <;> simp_all]
    rw [resp_le hD]
    constructor
    · intro h5 q hq
      exact h5 q ((jobs_iff hT.1 (by omega) q).2 hq)
    · intro h5 q hq
      exact h5 q ((jobs_iff hT.1 (by omega) q).1 hq)
/-- loads that are no more, task by task -/
inductive LdLe : List Ld → List Ld → Prop
  | nil : LdLe [] []
  | cons {p p' : Ld} {l l' : List Ld} : p'.1 = p.1 → 0 ≤ p'.2 → p'.2 ≤ p.2 → LdLe l' l → LdLe (p' :: l') (p :: l)
theorem LdLe.refl {l : List Ld} (h : ∀ p ∈ l, 0 ≤ p.2) : LdLe l l := by
  induction l with
  | nil => exact .nil
  | cons p l ih => exact .cons rfl (h p List.mem_cons_self) (Int.le_refl _) (ih fun q hq => h q (List.mem_cons_of_mem _ hq))
theorem LdLe.snoc {l l' : List Ld} (h : LdLe l' l) {p p' : Ld} (h1 : p'.1 = p.1) (h2 : 0 ≤ p'.2) (h3 : p'.2 ≤ p.2) : LdLe (l' ++ [p']) (l ++ [p]) := by
  induction h with
  | nil => exact .cons h1 h2 h3 .nil
  | cons a b c _ ih => exact .cons a b c ih
theorem LdLe.len {l l' : List Ld} (h : LdLe l' l) : l'.length = l.length := by
  induction h with
  | nil => rfl
  | cons _ _ _ _ ih => simp [ih]
theorem LdLe.each {l l' : List Ld} (h : LdLe l' l) (hl : ∀ p ∈ l, (1 ≤ p.1 ∧ p.1 ≤ 1000000) ∧ 0 ≤ p.2 ∧ p.2 ≤ 1000000) : ∀ p ∈ l', (1 ≤ p.1 ∧ p.1 ≤ 1000000) ∧ 0 ≤ p.2 ∧ p.2 ≤ 1000000 := by
  induction h with
  | nil => exact hl
  | @cons p p' l l' a b c _ ih =>
    intro q hq
    rcases List.mem_cons.1 hq with rfl | hq
    · have := hl p List.mem_cons_self
      exact ⟨by rw [a]; exact this.1, b, by omega⟩
    · exact ih (fun q hq => hl q (List.mem_cons_of_mem _ hq)) q hq
theorem LdLe.ok {l l' : List Ld} (h : LdLe l' l) (hl : LdsOk l) : LdsOk l' := ⟨by rw [h.len]; exact hl.len, h.each hl.each⟩
theorem LdLe.sum {l l' : List Ld} (h : LdLe l' l) (hl : ∀ p ∈ l, 1 ≤ p.1 ∧ 0 ≤ p.2) {b b' : Int} (hb : b' ≤ b) {x : Int} (hx : 0 ≤ x) : sumL b' l' x ≤ sumL b l x := by
  have : (l'.map (termL x)).sum ≤ (l.map (termL x)).sum := by
    induction h with
    | nil => simp
    | @cons p p' l l' a _ c _ ih =>
      have h1 := ih (fun q hq => hl q (List.mem_cons_of_mem _ hq))
      have hp := hl p List.mem_cons_self
      have h2 : termL x p' ≤ termL x p := by
        unfold termL
        rw [a]
        exact Int.mul_le_mul_of_nonneg_right c (ceil_nonneg hx hp.1)
      simp only [List.map_cons, List.sum_cons]
      omega
  unfold sumL
  omega
theorem own_one {T w b : Int} {l : List Ld} (hl : LdsOk l) (hT : 1 ≤ T ∧ T ≤ 1000000) (hw : 1 ≤ w ∧ w ≤ 1000000) (hb : 0 ≤ b) : 1 ≤ sumL b (l ++ [(T, w)]) 1 := by
  rw [sum_append]
  have h2 := sum_nonneg hl.two (base := b) (x := 1) (by omega)
  have h3 : 1 ≤ ceilF 1 T := by
    have := (ceil_le (a := 1) (b := T) (x := 0) (by omega) hT.1)
    omega
  have h4 : w * 1 ≤ w * ceilF 1 T := Int.mul_le_mul_of_nonneg_left h3 (by omega)
  show 1 ≤ sumL b l 1 + w * ceilF 1 T
  omega
/-- with less of all it is accepted still -/
theorem acc_mono {T w w' D b b' : Int} {l l' : List Ld} (hl : LdsOk l) (hle : LdLe l' l) (hT : 1 ≤ T ∧ T ≤ 1000000) (hw : w ≤ 1000000) (hw' : 1 ≤ w' ∧ w' ≤ w) (hb : 0 ≤ b' ∧ b' ≤ b) (h : accP T w D b l) : accP T w' D b' l' := by
  obtain ⟨long, h1, h2⟩ := h
  have hW : 1 ≤ w ∧ w ≤ 1000000 := by omega
  obtain ⟨g1, g2, g3, g4, g5⟩ := busy_job hl hT hW h1
  have hl' := hle.ok hl
  have hok' := hl'.with (b := b') (T := T) (w := w') hb.1 (by omega) hT (by omega)
  have hone := own_one hl' hT (show 1 ≤ w' ∧ w' ≤ 1000000 by omega) hb.1
  have hlong := ((least_spec (hl.with g1 g2 hT (by omega)) (own_one hl hT hW g1)).1 long h1).1
  have hle2 : LdLe (l' ++ [(T, w')]) (l ++ [(T, w)]) := hle.snoc rfl (by show 0 ≤ w'; omega) hw'.2
  have htwo : ∀ p ∈ l ++ [(T, w)], 1 ≤ p.1 ∧ 0 ≤ p.2 := fun p hp => by
    have := (hl.with g1 g2 hT (by omega)).each p hp
    exact ⟨this.1.1, this.2.1⟩
  have hs := hle2.sum htwo hb.2 (x := long) (by omega)
  obtain ⟨long', k1, k2⟩ := (least_spec hok' hone).2 long g3 g4 (by omega)
  refine ⟨long', k1, fun q hq => ?_⟩
  have hq1 : (q : Int) * T < long := by omega
  obtain ⟨a1, a2, a3, a4, a5, a6⟩ := job_least hl hT hW h1 q hq1
  obtain ⟨b1, b2, b3, b4, b5, b6⟩ := job_least hl' hT (show 1 ≤ w' ∧ w' ≤ 1000000 by omega) k1 q hq
  have hm : ((q : Int) + 1) * w' ≤ ((q : Int) + 1) * w := Int.mul_le_mul_of_nonneg_left hw'.2 (by omega)
  have := hle.sum hl.two (b := b + (q + 1) * w) (b' := b' + (q + 1) * w') (by omega) (x := leastZ (b + (q + 1) * w) l) (by omega)
  have := b6 (leastZ (b + (q + 1) * w) l) (by omega) (by omega)
  have := h2 q hq1
  omega
/-- the bound is no less than the work, and the blocking -/
theorem resp_work {T w b long : Int} {l : List Ld} (hl : LdsOk l) (hT : 1 ≤ T ∧ T ≤ 1000000) (hw : 1 ≤ w ∧ w ≤ 1000000) (h : least b (l ++ [(T, w)]) = some long) : b + w ≤ respL T w b l (jobsN T long) := by
  obtain ⟨g1, g2, g3, g4, g5⟩ := busy_job hl hT hw h
  have h0 : ((0 : Nat) : Int) * T < long := by simp; omega
  have h1 := (jobs_iff hT.1 (by omega) 0).2 h0
  obtain ⟨a1, a2, a3, a4, a5, a6⟩ := job_least hl hT hw h 0 h0
  have := (resp_le (T := T) (w := w) (b := b) (l := l) (resp_range hl hT hw h _ (Nat.le_refl _)).1 (jobsN T long)).1 (Int.le_refl _) 0 h1
  simp at this a3
  omega
/-- a task alone -/
theorem with_alone {T w D : Int} (hT : 1 ≤ T ∧ T ≤ 1000000) (hw : 1 ≤ w ∧ w ≤ 1000000) (hwD : w ≤ D) (hDT : D ≤ T) : withL T w D 0 [] = (w, 1) := by
  have hl : LdsOk [] := ⟨by simp, fun p hp => by simp at hp⟩
  have hok := hl.with (b := 0) (T := T) (w := w) (by omega) (by omega) hT (by omega)
  have hc : ceilF w T = 1 := by
    have h1 := (ceil_le (a := w) (b := T) (x := 1) (by omega) hT.1)
    have h2 := (ceil_le (a := w) (b := T) (x := 0) (by omega) hT.1)
    omega
  have hsp := least_spec hok (own_one hl hT hw (by omega))
  obtain ⟨f, hf, hfw⟩ := hsp.2 w hw.1 hw.2 (by rw [List.nil_append]; unfold sumL termL; simp [hc])
  obtain ⟨g1, g2, g3⟩ := hsp.1 f hf
  have hfe : f = w := by
    have hc1 : ceilF f T = 1 := by
      have h1 := (ceil_le (a := f) (b := T) (x := 1) (by omega) hT.1)
      have h2 := (ceil_le (a := f) (b := T) (x := 0) (by omega) hT.1)
      omega
    rw [List.nil_append] at g1
    unfold sumL termL at g1
    simp [hc1] at g1
    omega
  subst hfe
  have hj : jobsN T f = 1 := by unfold jobsN; rw [hc]; rfl
  obtain ⟨a1, a2, a3, a4, a5, a6⟩ := job_least hl hT hw hf 0 (by simp; omega)
  have hz : leastZ (0 + (0 + 1) * f) [] = f := by
    rw [sumL_nil] at a2
    have e : (0 : Int) + (((0 : Nat) : Int) + 1) * f = 0 + (0 + 1) * f := by simp
    rw [e] at a2
    rw [← a2]
    omega
  have hr : respL T f 0 [] 1 = f := by
    show max 0 (leastZ (0 + (((0 : Nat) : Int) + 1) * f) [] - ((0 : Nat) : Int) * T) = f
    simp only [Int.natCast_zero, Int.zero_mul]
    rw [hz]
    omega
  unfold withL
  rw [hf]
  simp only [hj, hr]
  rw [if_pos hwD]
end Go.Proofs.YtknfdjnbndfboaaDoor
