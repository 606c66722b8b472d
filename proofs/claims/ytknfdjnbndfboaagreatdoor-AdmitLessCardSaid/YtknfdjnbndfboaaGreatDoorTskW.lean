/- A store into a row of a set of the call's own. -/
import Derived.Test.YtknfdjnbndfboaaGreatDoorProg
import Derived.Test.YtknfdjnbndfboaaGreatDoorBase
import Derived.Test.YtknfdjnbndfboaaGreatDoorHeldX
import Derived.Test.YtknfdjnbndfboaaGreatDoorApp
import Derived.Test.YtknfdjnbndfboaaGreatDoorTsk1
import Derived.Test.YtknfdjnbndfboaaGreatDoorTsk3
import Derived.Test.YtknfdjnbndfboaaGreatDoorTsk4
import Derived.Test.YtknfdjnbndfboaaGreatDoorTskZ
import Derived.Test.YtknfdjnbndfboaaGreatDoorTskO
import Derived.Test.YtknfdjnbndfboaaGreatDoorSetO
import Derived.Test.YtknfdjnbndfboaaGreatDoorTskP
import Derived.Test.YtknfdjnbndfboaaGreatDoorTskN
import Derived.Test.YtknfdjnbndfboaaGreatDoorTolP
import Derived.Laws.OwnMore
namespace Go.Proofs.YtknfdjnbndfboaaGreatDoor
open Go.RowKit

theorem encI_len (x : Int) : (encI x).length = 1 := rfl
/-- the row of task i -/
theorem PutOwn.rowAt {w : World} {base : Nat} {v : Value} {ps : List (Tsk × Value)} (h : PutOwn w base v ps) {i : Nat} (hi : i < ps.length) (hne : (ps[i]).1.regs ≠ []) : ∃ g c, (ps[i]).2 = .slice (some ⟨g, 0, none⟩) (ps[i]).1.regs.length c ∧ base ≤ g := by
  have h1 := h.2.1 _ (List.getElem_mem hi)
  rcases h1.2 with ⟨_, hn⟩ | ⟨g, cap, cur, hv, hg, hh, _⟩
  · exact absurd (List.length_eq_zero_iff.1 hn) hne
  · exact ⟨g, cap, hv, hg⟩
theorem PutOwn.rowCell {w : World} {base : Nat} {v : Value} {ps : List (Tsk × Value)} (h : PutOwn w base v ps) {i : Nat} (hi : i < ps.length) {t : Tsk} {g n c : Nat} (hp : ps[i] = (t, .slice (some ⟨g, 0, none⟩) n c)) {j : Nat} (hj : j < t.regs.length) :
    w.cell? ⟨g, j, none⟩ = some (.int .i64 t.regs[j]) ∧ w.frozen? ⟨g, j, none⟩ = false := by
  have h1 := h.2.1 _ (List.getElem_mem hi)
  rw [hp] at h1
  unfold RowI OwnL at h1
  dsimp only at h1
  have hn : n = t.regs.length := by
    rcases h1.2 with ⟨e, _⟩ | ⟨g', cap, cur, hv, _⟩
    · cases e
    · exact (Value.slice.inj hv).2.1
  subst hn
  refine ⟨?_, World.ownsRow.frozenAt h1 j⟩
  have := World.ownsRow.cellAt h1 j (by omega)
  rw [this, encI_flat]
  simp [hj]
/-- one number of one row is written -/
theorem PutOwn.rowSet {w : World} {base : Nat} {v : Value} {ps : List (Tsk × Value)} (h : PutOwn w base v ps) {i : Nat} (hi : i < ps.length) {t : Tsk} {g n c : Nat} (hp : ps[i] = (t, .slice (some ⟨g, 0, none⟩) n c)) {j : Nat} (x : Int) :
    PutOwn (w.setCell ⟨g, j, none⟩ (.int .i64 x)) base v (ps.set i ({ t with regs := t.regs.set j x }, .slice (some ⟨g, 0, none⟩) n c)) := by
  have h1 := h.2.1 _ (List.getElem_mem hi)
  rw [hp] at h1
  have hb1 : (Value.slice (some ⟨g, 0, none⟩) n c).ownBlock = some g := rfl
  have hn : n = t.regs.length := by
    have h2 := h1
    unfold RowI OwnL at h2
    dsimp only at h2
    rcases h2.2 with ⟨e, _⟩ | ⟨g', cap, cur, hv, _⟩
    · cases e
    · exact (Value.slice.inj hv).2.1
  subst hn
  refine ⟨?_, fun p hp2 => ?_, ?_⟩
  · have h2 := OwnL.set h.1 (a := ⟨g, j, none⟩) (fun e => own_types h.1 h1 (by decide) g e hb1) (.int .i64 x)
    have e : (ps.set i ({ t with regs := t.regs.set j x }, Value.slice (some ⟨g, 0, none⟩) t.regs.length c)).flatMap encT = ps.flatMap encT := by
      have : ∀ (qs : List (Tsk × Value)) (i : Nat) (hi : i < qs.length), encT qs[i] = encT (t, Value.slice (some ⟨g, 0, none⟩) t.regs.length c) → (qs.set i ({ t with regs := t.regs.set j x }, Value.slice (some ⟨g, 0, none⟩) t.regs.length c)).flatMap encT = qs.flatMap encT := by
        intro qs
        induction qs with
        | nil => intro i hi; simp at hi
        | cons q qs ih =>
          intro i hi he
          cases i with
          | zero =>
            simp only [List.set_cons_zero, List.flatMap_cons]
            simp only [List.getElem_cons_zero] at he
            rw [he]
            rfl
          | succ i =>
            simp only [List.set_cons_succ, List.flatMap_cons]
            rw [ih i (by simpa using hi) (by simpa using he)]
      exact this ps i hi (by rw [hp])
    unfold OwnL at h2 ⊢
    rw [e, List.length_set]
    exact h2
  · obtain ⟨k, hk, rfl⟩ := List.mem_iff_getElem.1 hp2
    rw [List.length_set] at hk
    rw [List.getElem_set]
    split
    · have h2 := h1
      unfold RowI OwnL at h2 ⊢
      dsimp only at h2 ⊢
      have := World.ownsRow.stored h2 j (.int .i64 x)
      have hs := flat_set (enc := encI) (size := 1) encI_len (k := 0) (by omega) (.int .i64 x) x t.regs j (fun _ => rfl)
      rw [Nat.mul_one, Nat.add_zero] at hs
      rw [hs] at this
      rw [List.length_set]
      exact this.1
    · rename_i hne
      refine OwnL.set (h.2.1 _ (List.getElem_mem hk)) (a := ⟨g, j, none⟩) ?_ _
      intro e
      have h3 := h.2.2
      rw [List.pairwise_iff_getElem] at h3
      rcases Nat.lt_trichotomy i k with hl | he | hl
      · have := h3 i k hi hk hl g (by rw [hp]; exact hb1)
        exact this e
      · exact hne he
      · have := h3 k i hk hi hl g e
        rw [hp] at this
        exact this hb1
  · have h3 := h.2.2
    rw [List.pairwise_iff_getElem] at h3 ⊢
    have e : ∀ k (hk : k < (ps.set i ({ t with regs := t.regs.set j x }, Value.slice (some ⟨g, 0, none⟩) t.regs.length c)).length), ((ps.set i ({ t with regs := t.regs.set j x }, Value.slice (some ⟨g, 0, none⟩) t.regs.length c))[k]).2 = (ps[k]'(by simpa using hk)).2 := fun k hk => by
      rw [List.getElem_set]
      split
      · rename_i e; subst e; rw [hp]
      · rfl
    intro a b ha hb hab
    rw [e, e]
    exact h3 a b (by simpa using ha) (by simpa using hb) hab

/-- one number of one row less by one -/
def lessT (j : Nat) (t : Tsk) : Tsk := { t with regs := t.regs.set j (wrap64 (t.regs.getD j 0 - 1)) }
theorem less_fit {s : TSet} (hf : s.fit) (k j : Nat) : (s.at k (lessT j)).fit := by
  refine ⟨hf.1, by rw [s.at_len]; exact hf.2.1, fun t ht => ?_⟩
  obtain ⟨i, hi, rfl⟩ := List.mem_iff_getElem.1 ht
  have hi' : i < s.tasks.length := by rwa [s.at_len] at hi
  rw [s.at_get]
  have := hf.2.2 _ (List.getElem_mem hi')
  split
  · obtain ⟨a, b, c1, c2, c3, c4, c5, c6, c7, c8⟩ := this
    refine ⟨a, by simpa [lessT] using b, c1, c2, c3, c4, c5, c6, c7, fun n hn => ?_⟩
    rcases List.mem_or_eq_of_mem_set hn with hn | rfl
    · exact c8 n hn
    · show (decide (_ ≤ _) && decide (_ ≤ _)) = true
      have h1 : -9223372036854775808 ≤ wrap64 ((s.tasks[i]).regs.getD j 0 - 1) ∧ wrap64 ((s.tasks[i]).regs.getD j 0 - 1) ≤ 9223372036854775807 := by unfold wrap64; omega
      rw [Bool.and_eq_true, decide_eq_true_eq, decide_eq_true_eq]
      exact h1
  · exact this
theorem sum_set_less : ∀ (xs : List Int) (j : Nat) (x : Int) (h : j < xs.length), (xs.set j x).foldl (fun a b => a + b) 0 = xs.foldl (fun a b => a + b) 0 - xs[j] + x := by
  intro xs j x h
  have : ∀ (xs : List Int) (j : Nat) (a : Int) (h : j < xs.length), (xs.set j x).foldl (fun a b => a + b) a = xs.foldl (fun a b => a + b) a - xs[j] + x := by
    intro xs
    induction xs with
    | nil => intro j a h; simp at h
    | cons y xs ih =>
      intro j a h
      cases j with
      | zero =>
        simp only [List.set_cons_zero, List.foldl_cons, List.getElem_cons_zero]
        have e : ∀ (l : List Int) (a d : Int), l.foldl (fun a b => a + b) (a + d) = l.foldl (fun a b => a + b) a + d := by
          intro l
          induction l with
          | nil => intro a d; rfl
          | cons z l ih2 => intro a d; simp only [List.foldl_cons]; rw [show a + d + z = a + z + d by omega, ih2]
        rw [e xs a x, e xs a y]
        omega
      | succ j =>
        simp only [List.set_cons_succ, List.foldl_cons, List.getElem_cons_succ]
        exact ih j (a + y) (by simpa using h)
  exact this xs j 0 h
/-- the work of regions as they may be is their sum -/
theorem work_sum {xs : List Int} (h : regsB xs = true) : workL xs = xs.foldl (fun a b => a + b) 0 := by
  obtain ⟨_, h2, h3⟩ := regs_each h
  have : ∀ k, k ≤ xs.length → workL (xs.take k) = (xs.take k).foldl (fun a b => a + b) 0 ∧ 0 ≤ workL (xs.take k) ∧ workL (xs.take k) ≤ 10000 * k := by
    intro k
    induction k with
    | zero => intro _; simp [workL]
    | succ k ih =>
      intro hk
      obtain ⟨a, b, c⟩ := ih (by omega)
      have := h3 _ (List.getElem_mem (show k < xs.length by omega))
      rw [work_snoc xs k (by omega), wrap_in (by omega) (by omega), List.take_succ_eq_append_getElem (by omega), List.foldl_append, ← a]
      refine ⟨rfl, by omega, by omega⟩
  have := (this xs.length (Nat.le_refl _)).1
  rwa [List.take_length] at this
theorem less_leaner {s : TSet} (k j : Nat) (h : allB s = true) (h' : allB (s.at k (lessT j)) = true) (hf : s.fit) : Leaner (s.at k (lessT j)) s := by
  have hs := fine_of h hf
  have hs' := fine_of h' (less_fit hf k j)
  refine ⟨rfl, s.at_len _ _, fun i h1 h2 => ?_⟩
  have hr := (hs.at i h1).regs
  have hr' := (hs'.at i h2).regs
  rw [s.at_get] at hr' ⊢
  by_cases hki : k = i
  · rw [if_pos hki] at hr' ⊢
    refine ⟨rfl, rfl, rfl, rfl, ?_⟩
    rw [work_sum hr, work_sum hr']
    show ((s.tasks[i]).regs.set j (wrap64 ((s.tasks[i]).regs.getD j 0 - 1))).foldl (fun a b => a + b) 0 ≤ _
    by_cases hj : j < (s.tasks[i]).regs.length
    · rw [sum_set_less _ _ _ hj, getD_at hj]
      have := (regs_each hr).2.2 _ (List.getElem_mem hj)
      rw [wrap_in (by omega) (by omega)]
      omega
    · rw [List.set_eq_of_length_le (by omega)]
      exact Int.le_refl _
  · rw [if_neg hki] at hr' ⊢
    exact ⟨rfl, rfl, rfl, rfl, Int.le_refl _⟩
theorem and16_i64 (n : Int) : ∃ m : Nat, bits BinOp.and IntKind.i64 n 65535 = (m : Int) ∧ m ≤ 65535 := by
  refine ⟨(BitVec.ofInt 64 n &&& BitVec.ofInt 64 65535).toNat, ?_, ?_⟩
  · show IntKind.i64.wrap ((BitVec.ofInt 64 n &&& BitVec.ofInt 64 65535).toNat : Int) = _
    have h : (BitVec.ofInt 64 n &&& BitVec.ofInt 64 65535).toNat ≤ 65535 := by
      rw [BitVec.toNat_and]
      exact Nat.and_le_right
    rw [IntKind.wrap_i64]
    omega
  · rw [BitVec.toNat_and]
    exact Nat.and_le_right
theorem tolO_le {s x : TSet} {i : Nat} (h : tolN s i ≤ tolN x i) {a : Int} (ha : tolO s i = some a) : ∃ b, tolO x i = some b ∧ a ≤ b := by
  unfold tolO at ha ⊢
  by_cases h0 : tolN s i = 0
  · rw [if_pos h0] at ha; cases ha
  · rw [if_neg h0] at ha
    rw [if_neg (by omega)]
    have := Option.some.inj ha
    exact ⟨_, rfl, by omega⟩
end Go.Proofs.YtknfdjnbndfboaaGreatDoor
