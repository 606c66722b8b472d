/- What toler answers, in plain Lean: it is no more than the deadline less the work; alone just that. -/
import Derived.Test.YtknfdjnbndfboaaDoorProg
import Derived.Test.YtknfdjnbndfboaaDoorRespM
import Derived.Test.YtknfdjnbndfboaaDoorRespS
import Derived.Test.YtknfdjnbndfboaaDoorResp
import Derived.Test.YtknfdjnbndfboaaDoorTol
import Derived.Test.YtknfdjnbndfboaaDoorTolA
import Derived.Lib.Hide
namespace Go.Proofs.YtknfdjnbndfboaaDoor
open Go.RowKit
attribute [local irreducible] popN

theorem acc_need {T w D b : Int} {l : List Ld} (hl : LdsOk l) (hT : 1 ≤ T ∧ T ≤ 1000000) (hw : 1 ≤ w ∧ w ≤ 1000000) (h : accP T w D b l) : 0 ≤ b ∧ b + w ≤ D := by
  obtain ⟨long, h4, h5⟩ := h
  obtain ⟨h7, _, h6, _, _⟩ := busy_job hl hT hw h4
  obtain ⟨_, _, a3, _, _⟩ := job_least hl hT hw h4 0 (by simp; omega)
  have := h5 0 (by simp; omega)
  simp at this a3
  omega
theorem acc_alone {T w D b : Int} (hT : 1 ≤ T ∧ T ≤ 1000000) (hw : 1 ≤ w) (hb : 0 ≤ b) (hD : b + w ≤ D) (hDT : D ≤ T) : accP T w D b [] := by
  have hl : LdsOk [] := ⟨by simp, fun p hp => by simp at hp⟩
  have hW : 1 ≤ w ∧ w ≤ 1000000 := by omega
  have hok := hl.with (b := b) (T := T) (w := w) hb (by omega) hT (by omega)
  have hc : ceilF (b + w) T ≤ 1 := (ceil_le (by omega) hT.1).2 (by omega)
  have hs : sumL b ([] ++ [(T, w)]) (b + w) ≤ b + w := by
    rw [sum_append, sumL_nil]
    have h1 : w * ceilF (b + w) T ≤ w * 1 := Int.mul_le_mul_of_nonneg_left hc (by omega)
    show b + w * ceilF (b + w) T ≤ b + w
    omega
  obtain ⟨long, h1, h2⟩ := (least_spec hok (own_one hl hT hW hb)).2 (b + w) (by omega) (by omega) hs
  refine ⟨long, h1, fun q hq => ?_⟩
  have hq0 : q = 0 := by
    rcases Nat.eq_zero_or_pos q with h | h
    · exact h
    · have : 1 * T ≤ (q : Int) * T := Int.mul_le_mul_of_nonneg_right (by omega) (by omega)
      omega
  subst hq0
  simp only [Int.natCast_zero, Int.zero_add, Int.one_mul, Int.zero_mul]
  have := (leastZ_spec hl (show 1 ≤ b + w by omega) (x := b + w) (by omega) (by omega) (by rw [sumL_nil]; omega)).2.2.2.1
  omega
theorem tolN_spec {s : TSet} {i : Nat} (hi : i < s.tasks.length) : tolN s i ≤ (s.tasks[i].D + 1).toNat ∧ (∀ x < tolN s i, accS s i x = true) ∧ (tolN s i < (s.tasks[i].D + 1).toNat → accS s i (tolN s i : Nat) = false) := by
  have : tolN s i = oddN (fun b => accS s i b) (s.tasks[i].D + 1).toNat := by unfold tolN; rw [dif_pos hi]
  rw [this]
  exact oddN_spec (fun b => accS s i b) _
theorem tolN_is {s : TSet} {i k : Nat} (hi : i < s.tasks.length) (h1 : k ≤ (s.tasks[i].D + 1).toNat) (h2 : ∀ x < k, accS s i x = true) (h3 : k < (s.tasks[i].D + 1).toNat → accS s i k = false) : tolN s i = k := by
  have : tolN s i = oddN (fun b => accS s i b) (s.tasks[i].D + 1).toNat := by unfold tolN; rw [dif_pos hi]
  rw [this]
  exact oddN_is h1 h2 h3
/-- what is accepted is what is less than tolN -/
theorem tolN_acc {s : TSet} (hs : Fine s) {i : Nat} (hi : i < s.tasks.length) {b : Int} (hb : 0 ≤ b) : accS s i b = true ↔ b < tolN s i := by
  obtain ⟨h1, h2, h3⟩ := tolN_spec (s := s) hi
  have h4 := (hs.at i hi).work
  constructor
  · intro h
    apply Int.not_le.1
    intro hc
    by_cases hlt : tolN s i < (s.tasks[i].D + 1).toNat
    · have := accS_mono hs hi (a := (tolN s i : Nat)) (by omega) hc h
      rw [h3 hlt] at this
      cases this
    · have := accS_top hs hi (b := b) (by omega)
      rw [h] at this
      cases this
  · intro h
    obtain ⟨n, rfl⟩ := Int.eq_ofNat_of_zero_le hb
    exact h2 n (by omega)
theorem accS_need {s : TSet} (hs : Fine s) {i : Nat} (hi : i < s.tasks.length) {b : Int} (h : accS s i b = true) : 0 ≤ b ∧ b + workL s.tasks[i].regs ≤ s.tasks[i].D := by
  have h3 := hs.at i hi
  have h1 := h3.work
  have h2 := h3.time
  exact acc_need (loads_ok hs (by omega)) (by omega) (by omega) ((accS_iff hs hi b).1 h)
/-- the first task bears all that its deadline leaves -/
theorem tolO_first {s : TSet} (hs : Fine s) (h0 : 0 < s.tasks.length) : tolO s 0 = some (s.tasks[0].D - workL s.tasks[0].regs) := by
  have h3 := hs.at 0 h0
  have h1 := h3.work
  have h2 := h3.time
  have hk : tolN s 0 = (s.tasks[0].D - workL s.tasks[0].regs + 1).toNat := by
    refine tolN_is h0 (by omega) (fun x hx => ?_) (fun h => ?_)
    · refine (accS_iff hs h0 _).2 ?_
      rw [loadsS_zero]
      exact acc_alone (by omega) h1.1 (by omega) (by omega) h2.1
    · cases hc : accS s 0 ((s.tasks[0].D - workL s.tasks[0].regs + 1).toNat : Nat) with
      | false => rfl
      | true =>
        have := accS_need hs h0 hc
        omega
  unfold tolO
  rw [hk, if_neg (by omega)]
  congr 1
  omega
end Go.Proofs.YtknfdjnbndfboaaDoor
