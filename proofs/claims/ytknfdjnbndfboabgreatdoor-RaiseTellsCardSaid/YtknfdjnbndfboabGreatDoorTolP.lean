/- What toler answers, in plain Lean: it is no more than the deadline less the work; alone just that. -/
import Derived.Test.YtknfdjnbndfboabGreatDoorProg
import Derived.Test.YtknfdjnbndfboabGreatDoorNumP
import Derived.Test.YtknfdjnbndfboabGreatDoorRespS
import Derived.Test.YtknfdjnbndfboabGreatDoorResp
import Derived.Test.YtknfdjnbndfboabGreatDoorTolA
import Derived.Test.YtknfdjnbndfboabGreatDoorBase
import Derived.Test.YtknfdjnbndfboabGreatDoorTsk1
import Derived.Test.YtknfdjnbndfboabGreatDoorTsk3
import Derived.Test.YtknfdjnbndfboabGreatDoorTsk4
import Derived.Test.YtknfdjnbndfboabGreatDoorTskZ
import Derived.Test.YtknfdjnbndfboabGreatDoorTskA
import Derived.Test.YtknfdjnbndfboabGreatDoorTskO
import Derived.Test.YtknfdjnbndfboabGreatDoorSetO
import Derived.Test.YtknfdjnbndfboabGreatDoorAgain
import Derived.Lib.Hide
namespace Go.Proofs.YtknfdjnbndfboabGreatDoor
open Go.RowKit
attribute [local irreducible] popN

theorem acc_need {T w D b : Int} {l : List Ld} (hl : LdsOk l) (hT : 1 ≤ T ∧ T ≤ 1000000) (hw : 1 ≤ w ∧ w ≤ 1000000) (h : accP T w D b l) : 0 ≤ b ∧ b + w ≤ D := by
  obtain ⟨long, h4, h5⟩ := h
  obtain ⟨h7, _, h6, _, _⟩ := busy_job hl hT hw h4
  obtain ⟨_, _, a3, _, _⟩ := job_least hl hT hw h4 0 (by simp; omega)
  have := h5 0 (by simp; omega)
  simp at this a3
  omega
theorem acc_alone {T w D b : Int} (hT : 1 ≤ T ∧ T ≤ 1000000) (hw : 1 ≤ w) (hb : 0 ≤ b) (hD : b + w ≤ D) (hDT : D ≤ T) : accP T w D b [] := by
  have hl : LdsOk [] := ⟨by simp, fun p hp => by simp at hp⟩
  have hW : 1 ≤ w ∧ w ≤ 1000000 := by omega
  have hok := hl.with (b := b) (T := T) (w := w) hb (by omega) hT (by omega)
  have hc : ceilF (b + w) T ≤ 1 := (ceil_le (by omega) hT.1).2 (by omega)
  have hs : sumL b ([] ++ [(T, w)]) (b + w) ≤ b + w := by
    rw [sum_append, sumL_nil]
    have h1 : w * ceilF (b + w) T ≤ w * 1 := Int.mul_le_mul_of_nonneg_left hc (by omega)
    show b + w * ceilF (b + w) T ≤ b + w
    omega
  obtain ⟨long, h1, h2⟩ := (least_spec hok (own_one hl hT hW hb)).2 (b + w) (by omega) (by omega) hs
  refine ⟨long, h1, fun q hq => ?_⟩
  have hq0 : q = 0 := by
    rcases Nat.eq_zero_or_pos q with h | h
    · exact h
    · have : 1 * T ≤ (q : Int) * T := Int.mul_le_mul_of_nonneg_right (by omega) (by omega)
      omega
  subst hq0
  simp only [Int.natCast_zero, Int.zero_add, Int.one_mul, Int.zero_mul]
  have := (leastZ_spec hl (show 1 ≤ b + w by omega) (x := b + w) (by omega) (by omega) (by rw [sumL_nil]; omega)).2.2.2.1
  omega
theorem tolN_spec {s : TSet} {i : Nat} (hi : i < s.tasks.length) : tolN s i ≤ (s.tasks[i].D + 1).toNat ∧ (∀ x < tolN s i, accS s i x = true) ∧ (tolN s i < (s.tasks[i].D + 1).toNat → accS s i (tolN s i : Nat) = false) := by
  have : tolN s i = oddN (fun b => accS s i b) (s.tasks[i].D + 1).toNat := by unfold tolN; rw [dif_pos hi]
  rw [this]
  exact oddN_spec (fun b => accS s i b) _
theorem tolN_is {s : TSet} {i k : Nat} (hi : i < s.tasks.length) (h1 : k ≤ (s.tasks[i].D + 1).toNat) (h2 : ∀ x < k, accS s i x = true) (h3 : k < (s.tasks[i].D + 1).toNat → accS s i k = false) : tolN s i = k := by
  have : tolN s i = oddN (fun b => accS s i b) (s.tasks[i].D + 1).toNat := by unfold tolN; rw [dif_pos hi]
  rw [this]
  exact oddN_is h1 h2 h3
/-- what is accepted is what is less than tolN -/
theorem tolN_acc {s : TSet} (hs : Fine s) {i : Nat} (hi : i < s.tasks.length) {b : Int} (hb : 0 ≤ b) : accS s i b = true ↔ b < tolN s i := by
  obtain ⟨h1, h2, h3⟩ := tolN_spec (s := s) hi
  have h4 := (hs.at i hi).work
  constructor
  · intro h
    apply Int.not_le.1
    intro hc
    by_cases hlt : tolN s i < (s.tasks[i].D + 1).toNat
    · have := accS_mono hs hi (a := (tolN s i : Nat)) (by omega) hc h
      rw [h3 hlt] at this
      cases this
    · have := accS_top hs hi (b := b) (by omega)
      rw [h] at this
      cases this
  · intro h
    obtain ⟨n, rfl⟩ := Int.eq_ofNat_of_zero_le hb
    exact h2 n (by omega)
theorem accS_need {s : TSet} (hs : Fine s) {i : Nat} (hi : i < s.tasks.length) {b : Int} (h : accS s i b = true) : 0 ≤ b ∧ b + workL s.tasks[i].regs ≤ s.tasks[i].D := by
  have h3 := hs.at i hi
  have h1 := h3.work
  have h2 := h3.time
  exact acc_need (loads_ok hs (by omega)) (by omega) (by omega) ((accS_iff hs hi b).1 h)
/-- the first task bears all that its deadline leaves -/
theorem tolO_first {s : TSet} (hs : Fine s) (h0 : 0 < s.tasks.length) : tolO s 0 = some (s.tasks[0].D - workL s.tasks[0].regs) := by
  have h3 := hs.at 0 h0
  have h1 := h3.work
  have h2 := h3.time
  have hk : tolN s 0 = (s.tasks[0].D - workL s.tasks[0].regs + 1).toNat := by
    refine tolN_is h0 (by omega) (fun x hx => ?_) (fun h => ?_)
    · refine (accS_iff hs h0 _).2 ?_
      rw [loadsS_zero]
      exact acc_alone (by omega) h1.1 (by omega) (by omega) h2.1
    · cases hc : accS s 0 ((s.tasks[0].D - workL s.tasks[0].regs + 1).toNat : Nat) with
      | false => rfl
      | true =>
        have := accS_need hs h0 hc
        omega
  unfold tolO
  rw [hk, if_neg (by omega)]
  congr 1
  omega
end Go.Proofs.YtknfdjnbndfboabGreatDoor
/- Sets that differ in one task: plain. -/
namespace Go.Proofs.YtknfdjnbndfboabGreatDoor
open Go.RowKit
attribute [local irreducible] popN

/-- task k by task k -/
def TSet.at (s : TSet) (k : Nat) (f : Tsk → Tsk) : TSet := ⟨s.reload, s.tasks.modify k f⟩
theorem TSet.at_len (s : TSet) (k : Nat) (f : Tsk → Tsk) : (s.at k f).tasks.length = s.tasks.length := by simp [TSet.at]
theorem TSet.at_get (s : TSet) (k : Nat) (f : Tsk → Tsk) (j : Nat) (h : j < (s.at k f).tasks.length) : (s.at k f).tasks[j] = if k = j then f (s.tasks[j]'(by rwa [s.at_len] at h)) else s.tasks[j]'(by rwa [s.at_len] at h) := by
  simp only [TSet.at, List.getElem_modify]
theorem okL_of : ∀ (ts ts' : List Tsk) (i : Nat) (seen : List (List UInt8)), ts'.length = ts.length → (∀ j (h : j < ts.length) (h' : j < ts'.length), ts'[j].name = ts[j].name ∧ (isB ts[j] (i + j : Nat) = true → isB ts'[j] (i + j : Nat) = true)) → okL ts i seen = true → okL ts' i seen = true
  | [], [], _, _, _, _, h => h
  | [], _ :: _, _, _, hl, _, _ => by simp at hl
  | _ :: _, [], _, _, hl, _, _ => by simp at hl
  | t :: ts, t' :: ts', i, seen, hl, hj, h => by
    simp only [okL, Bool.and_eq_true] at h ⊢
    have h0 := hj 0 (by simp) (by simp)
    simp only [List.getElem_cons_zero, Nat.add_zero] at h0
    rw [h0.1]
    refine ⟨h0.2 h.1, h.2.1, okL_of ts ts' (i + 1) _ (by simpa using hl) (fun j h1 h2 => ?_) h.2.2⟩
    have := hj (j + 1) (by simpa using h1) (by simpa using h2)
    simp only [List.getElem_cons_succ] at this
    rw [show i + (j + 1) = i + 1 + j by omega] at this
    exact this
theorem allB_of {s s' : TSet} (hr : s'.reload = s.reload) (hl : s'.tasks.length = s.tasks.length) (hj : ∀ j (h : j < s.tasks.length) (h' : j < s'.tasks.length), s'.tasks[j].name = s.tasks[j].name ∧ (isB s.tasks[j] j = true → isB s'.tasks[j] j = true)) (h : allB s = true) : allB s' = true := by
  simp only [allB, Bool.and_eq_true] at h ⊢
  rw [hr, hl]
  refine ⟨h.1, h.2.1, h.2.2.1, okL_of s.tasks s'.tasks 0 [] hl (fun j h1 h2 => ?_) h.2.2.2⟩
  rw [Nat.zero_add]
  exact hj j h1 h2
theorem orU_congr {a b : List Tsk} (h : a.map (·.ucb) = b.map (·.ucb)) : orU a = orU b := by
  unfold orU
  have e : ∀ (l : List Tsk) (m : Nat), l.foldl (fun m t => m ||| t.ucb.toNat) m = (l.map (·.ucb)).foldl (fun m u => m ||| u.toNat) m := fun l => by
    induction l with
    | nil => intro m; rfl
    | cons t l ih => intro m; exact ih _
  rw [e, e, h]
/-- the sets are alike but for names, modes, Q, thresholds, and that s' asks for no more work -/
structure Leaner (s' s : TSet) : Prop where
  reload : s'.reload = s.reload
  len : s'.tasks.length = s.tasks.length
  each : ∀ j (h : j < s.tasks.length) (h' : j < s'.tasks.length), s'.tasks[j].T = s.tasks[j].T ∧ s'.tasks[j].D = s.tasks[j].D ∧ s'.tasks[j].ecb = s.tasks[j].ecb ∧ s'.tasks[j].ucb = s.tasks[j].ucb ∧ workL s'.tasks[j].regs ≤ workL s.tasks[j].regs
theorem Leaner.made {s' s : TSet} (h : Leaner s' s) (k : Nat) (hk : k < s.tasks.length) (hk' : k < s'.tasks.length) : madeN s' k hk' = madeN s k hk := by
  unfold madeN
  rw [h.reload, (h.each k hk hk').2.2.1]
  have : orU (s'.tasks.drop (k + 1)) = orU (s.tasks.drop (k + 1)) := by
    apply orU_congr
    refine List.ext_getElem (by simp [h.len]) fun j h1 h2 => ?_
    simp only [List.length_map, List.length_drop] at h1 h2
    simp only [List.getElem_map, List.getElem_drop]
    exact (h.each (k + 1 + j) (by omega) (by omega)).2.2.2.1
  rw [this]
theorem Leaner.loads {s' s : TSet} (h : Leaner s' s) (hs' : Fine s') : ∀ i, i ≤ s.tasks.length → LdLe (loadsS s' i) (loadsS s i)
  | 0, _ => .nil
  | i + 1, hi => by
    rw [loadsS_succ, loadsS_succ]
    have h1 := h.each i (by omega) (by rw [h.len]; omega)
    have h2 := h.made i (by omega) (by rw [h.len]; omega)
    have h3 := (hs'.at i (by rw [h.len]; omega)).work
    refine (h.loads hs' i (by omega)).snoc ?_ ?_ ?_
    · rw [loadAt_in s' (by rw [h.len]; omega), loadAt_in s (by omega)]
      exact h1.1
    · rw [loadAt_in s' (by rw [h.len]; omega)]
      dsimp only
      omega
    · rw [loadAt_in s' (by rw [h.len]; omega), loadAt_in s (by omega)]
      dsimp only
      rw [h2]
      omega
/-- with less it is accepted still -/
theorem Leaner.acc {s' s : TSet} (h : Leaner s' s) (hs' : Fine s') (hs : Fine s) {i : Nat} (hi : i < s.tasks.length) {b b' : Int} (hb : 0 ≤ b' ∧ b' ≤ b) (ha : accS s i b = true) : accS s' i b' = true := by
  have hi' : i < s'.tasks.length := by rw [h.len]; exact hi
  have h1 := h.each i hi hi'
  have h2 := (hs'.at i hi').work
  have h3 := (hs.at i hi).work
  have h4 := (hs.at i hi).time
  refine (accS_iff hs' hi' b').2 ?_
  rw [h1.1, h1.2.1]
  exact acc_mono (loads_ok hs (by omega)) (h.loads hs' i (by omega)) (by omega) (by omega) ⟨h2.1, h1.2.2.2.2⟩ hb ((accS_iff hs hi b).1 ha)
theorem Leaner.tol {s' s : TSet} (h : Leaner s' s) (hs' : Fine s') (hs : Fine s) {i : Nat} (hi : i < s.tasks.length) : tolN s i ≤ tolN s' i := by
  have hi' : i < s'.tasks.length := by rw [h.len]; exact hi
  rcases Nat.eq_zero_or_pos (tolN s i) with h0 | h0
  · omega
  · have h1 := (tolN_acc hs hi (b := (tolN s i : Int) - 1) (by omega)).2 (by omega)
    have h2 := h.acc hs' hs hi (b' := (tolN s i : Int) - 1) ⟨by omega, Int.le_refl _⟩ h1
    have h3 := (tolN_acc hs' hi' (b := (tolN s i : Int) - 1) (by omega)).1 h2
    omega
theorem Leaner.same {s' s : TSet} (h : Leaner s' s) (hw : ∀ j (h : j < s.tasks.length) (h' : j < s'.tasks.length), workL s'.tasks[j].regs = workL s.tasks[j].regs) : Leaner s s' :=
  ⟨h.reload.symm, h.len.symm, fun j h1 h2 => by
    obtain ⟨a, b, c, d, e⟩ := h.each j h2 h1
    exact ⟨a.symm, b.symm, c.symm, d.symm, by rw [hw j h2 h1]; exact Int.le_refl _⟩⟩
theorem Leaner.tolO {s' s : TSet} (h : Leaner s' s) (hw : ∀ j (h : j < s.tasks.length) (h' : j < s'.tasks.length), workL s'.tasks[j].regs = workL s.tasks[j].regs) (hs' : Fine s') (hs : Fine s) {i : Nat} (hi : i < s.tasks.length) : tolO s' i = tolO s i := by
  have h1 := h.tol hs' hs hi
  have h2 := (h.same hw).tol hs hs' (by rw [h.len]; exact hi)
  have : tolN s' i = tolN s i := by omega
  unfold Go.Proofs.YtknfdjnbndfboabGreatDoor.tolO
  rw [this]

/-- one task of another mode -/
def modedT (m q th : Int) (t : Tsk) : Tsk := { t with mode := m, q := q, theta := th }
theorem moded_leaner (s : TSet) (k : Nat) (m q th : Int) : Leaner (s.at k (modedT m q th)) s := by
  refine ⟨rfl, s.at_len _ _, fun j h1 h2 => ?_⟩
  rw [s.at_get]
  split
  · exact ⟨rfl, rfl, rfl, rfl, Int.le_refl _⟩
  · exact ⟨rfl, rfl, rfl, rfl, Int.le_refl _⟩
theorem moded_work (s : TSet) (k : Nat) (m q th : Int) (j : Nat) (h : j < s.tasks.length) (h' : j < (s.at k (modedT m q th)).tasks.length) : workL (s.at k (modedT m q th)).tasks[j].regs = workL s.tasks[j].regs := by
  rw [s.at_get]
  split <;> rfl
theorem moded_all {s : TSet} (k : Nat) {m q th : Int} (hm : ∀ t : Tsk, modeB (modedT m q th t) k = true) (h : allB s = true) : allB (s.at k (modedT m q th)) = true := by
  refine allB_of (s := s) rfl (s.at_len _ _) (fun j h1 h2 => ?_) h
  rw [s.at_get]
  split
  · rename_i e
    subst e
    refine ⟨rfl, fun hi => ?_⟩
    simp only [isB, Bool.and_eq_true] at hi ⊢
    obtain ⟨a, b, c, d, e, f, g⟩ := hi
    exact ⟨a, b, c, d, e, hm _, g⟩
  · exact ⟨rfl, fun hi => hi⟩
theorem moded_fit {s : TSet} (hf : s.fit) (k : Nat) {m q th : Int} (h1 : (Lit.int .i64 m).wf = true) (h2 : (Lit.int .i64 q).wf = true) (h3 : (Lit.int .i64 th).wf = true) : (s.at k (modedT m q th)).fit := by
  refine ⟨hf.1, by rw [s.at_len]; exact hf.2.1, fun t ht => ?_⟩
  obtain ⟨j, hj, rfl⟩ := List.mem_iff_getElem.1 ht
  have hj' : j < s.tasks.length := by rwa [s.at_len] at hj
  rw [s.at_get]
  have := hf.2.2 _ (List.getElem_mem hj')
  split
  · obtain ⟨a, b, c1, c2, c3, c4, c5, c6, c7, c8⟩ := this
    exact ⟨a, b, c1, c2, h1, h2, h3, c6, c7, c8⟩
  · exact this
end Go.Proofs.YtknfdjnbndfboabGreatDoor
/- How a set is judged: plain. -/
namespace Go.Proofs.YtknfdjnbndfboabGreatDoor
open Go.RowKit
attribute [local irreducible] popN

/-- a verdict -/
structure Vd where
  how : Int
  task : Int
  rs : List Int
/-- when the first n are looked at -/
def judgeN (s : TSet) : Nat → Vd
  | 0 => ⟨1, 0, []⟩
  | n + 1 => if (judgeN s n).how = 1 then (if (respS s n).2 = 1 then ⟨1, 0, (judgeN s n).rs ++ [(respS s n).1]⟩ else ⟨(respS s n).2, n, []⟩) else judgeN s n
def judgeS (s : TSet) : Vd := judgeN s s.tasks.length
theorem judgeN_stop (s : TSet) (n : Nat) (h : (judgeN s n).how ≠ 1) : ∀ d, judgeN s (n + d) = judgeN s n
  | 0 => rfl
  | d + 1 => by
    show (if (judgeN s (n + d)).how = 1 then _ else judgeN s (n + d)) = _
    rw [judgeN_stop s n h d, if_neg h]
theorem judgeS_stop (s : TSet) {n : Nat} (hn : n < s.tasks.length) (h1 : (judgeN s n).how = 1) (h2 : (respS s n).2 ≠ 1) : judgeS s = ⟨(respS s n).2, n, []⟩ := by
  have h3 : judgeN s (n + 1) = ⟨(respS s n).2, n, []⟩ := by
    show (if (judgeN s n).how = 1 then _ else _) = _
    rw [if_pos h1, if_neg h2]
  have := judgeN_stop s (n + 1) (by rw [h3]; exact h2) (s.tasks.length - (n + 1))
  rw [show n + 1 + (s.tasks.length - (n + 1)) = s.tasks.length by omega, h3] at this
  exact this
theorem judgeN_step (s : TSet) {n : Nat} {ls : List Int} (h1 : judgeN s n = ⟨1, 0, ls⟩) (h2 : (respS s n).2 = 1) : judgeN s (n + 1) = ⟨1, 0, ls ++ [(respS s n).1]⟩ := by
  show (if (judgeN s n).how = 1 then (if (respS s n).2 = 1 then (⟨1, 0, (judgeN s n).rs ++ [(respS s n).1]⟩ : Vd) else _) else _) = _
  rw [h1, if_pos rfl, if_pos h2]
/-- accepted: all are -/
theorem judgeN_acc (s : TSet) : ∀ n, (judgeN s n).how = 1 ↔ ∀ j < n, (respS s j).2 = 1
  | 0 => ⟨fun _ j h => by omega, fun _ => rfl⟩
  | n + 1 => by
    have ih := judgeN_acc s n
    unfold judgeN
    by_cases h : (judgeN s n).how = 1
    · rw [if_pos h]
      by_cases h2 : (respS s n).2 = 1
      · rw [if_pos h2]
        refine ⟨fun _ j hj => ?_, fun _ => rfl⟩
        by_cases hjn : j = n
        · subst hjn; exact h2
        · exact ih.1 h j (by omega)
      · rw [if_neg h2]
        exact ⟨fun h3 => absurd h3 h2, fun h3 => absurd (h3 n (by omega)) h2⟩
    · rw [if_neg h]
      exact ⟨fun h3 => absurd h3 h, fun h3 => ih.2 fun j hj => h3 j (by omega)⟩
theorem judgeN_rs (s : TSet) : ∀ n, (judgeN s n).how = 1 → (judgeN s n).task = 0 ∧ (judgeN s n).rs = (List.range n).map fun j => (respS s j).1
  | 0, _ => ⟨rfl, rfl⟩
  | n + 1, h => by
    have h1 := (judgeN_acc s (n + 1)).1 h
    have h2 := (judgeN_acc s n).2 fun j hj => h1 j (by omega)
    obtain ⟨h3, h4⟩ := judgeN_rs s n h2
    unfold judgeN
    rw [if_pos h2, if_pos (h1 n (by omega)), h4, List.range_succ, List.map_append]
    exact ⟨rfl, rfl⟩
theorem judgeN_not (s : TSet) : ∀ n, (judgeN s n).how ≠ 1 → (judgeN s n).rs = [] ∧ 0 ≤ (judgeN s n).task ∧ (judgeN s n).task < n
  | 0, h => absurd rfl h
  | n + 1, h => by
    unfold judgeN at h ⊢
    by_cases h1 : (judgeN s n).how = 1
    · rw [if_pos h1] at h ⊢
      by_cases h2 : (respS s n).2 = 1
      · rw [if_pos h2] at h
        exact absurd rfl h
      · rw [if_neg h2]
        exact ⟨rfl, by show (0 : Int) ≤ n; omega, by show (n : Int) < ((n + 1 : Nat) : Int); omega⟩
    · rw [if_neg h1]
      obtain ⟨a, b, c⟩ := judgeN_not s n h1
      exact ⟨a, b, by omega⟩
theorem respS_acc {s : TSet} (i : Nat) : (respS s i).2 = 1 ↔ accS s i (mostS s i) = true := by
  unfold accS respS
  rw [beq_iff_eq]
/-- the bound of one that is accepted: no more than its deadline, no less than its work -/
theorem respS_bound {s : TSet} (hs : Fine s) {i : Nat} (hi : i < s.tasks.length) (h : (respS s i).2 = 1) : (respS s i).1 ≤ s.tasks[i].D ∧ workL s.tasks[i].regs ≤ (respS s i).1 := by
  unfold respS at h ⊢
  rw [withS_in s hi] at h ⊢
  have h3 := hs.at i hi
  have h1 := h3.work
  have h2 := h3.time
  have h4 := mostL_range hs i s.tasks.length
  unfold withL at h ⊢
  cases hl : least (mostS s i) (loadsS s i ++ [(s.tasks[i].T, workL s.tasks[i].regs)]) with
  | none => rw [hl] at h; simp at h
  | some long =>
    rw [hl] at h
    dsimp only at h ⊢
    have h5 := resp_work (loads_ok hs (by omega)) (by omega) (by omega) hl
    have h6 : 0 ≤ mostS s i := h4.1
    refine ⟨?_, by omega⟩
    by_cases hr : respL s.tasks[i].T (workL s.tasks[i].regs) (mostS s i) (loadsS s i) (jobsN s.tasks[i].T long) ≤ s.tasks[i].D
    · exact hr
    · rw [if_neg hr] at h
      simp at h
theorem mostS_last {s : TSet} {i : Nat} (h : s.tasks.length ≤ i + 1) : mostS s i = 0 := mostL_low s i _ h
/-- a task alone is accepted, its bound is its work -/
theorem judge_one {s : TSet} (hs : Fine s) (h1 : s.tasks.length = 1) : judgeS s = ⟨1, 0, [workL (s.tasks[0]'(by omega)).regs]⟩ := by
  have h3 := hs.at 0 (by omega)
  have hw := h3.work
  have ht := h3.time
  have hr : respS s 0 = (workL (s.tasks[0]'(by omega)).regs, 1) := by
    unfold respS
    rw [mostS_last (by omega), withS_in s (by omega), loadsS_zero]
    exact with_alone (by omega) (by omega) hw.2 ht.1
  have h4 : judgeS s = judgeN s 1 := by unfold judgeS; exact congrArg (judgeN s) h1
  rw [h4, judgeN_step s (n := 0) (ls := []) rfl (by rw [hr]), hr]
  rfl
end Go.Proofs.YtknfdjnbndfboabGreatDoor
