/- A store into a set of the call's own. -/
import Derived.Test.YtniejidekflmiaaDoorProg
import Derived.Test.YtniejidekflmiaaDoorBase
import Derived.Test.YtniejidekflmiaaDoorHeldX
import Derived.Test.YtniejidekflmiaaDoorApp
import Derived.Test.YtniejidekflmiaaDoorTsk1
import Derived.Test.YtniejidekflmiaaDoorTsk3
import Derived.Test.YtniejidekflmiaaDoorTskZ
import Derived.Test.YtniejidekflmiaaDoorTskO
import Derived.Test.YtniejidekflmiaaDoorSetO
import Derived.Test.YtniejidekflmiaaDoorTskP
import Derived.Laws.OwnMore
namespace Go.Proofs.YtniejidekflmiaaDoor
open Go.RowKit

/-- an invariant that go_simp reads (its head is no variable) -/
def Und (S : World → Prop) (w : World) : Prop := S w
theorem flat_set {α : Type} {enc : α → List Value} {size : Nat} (hsz : ∀ x, (enc x).length = size) {k : Nat} (hk : k < size) (u : Value) (p' : α) : ∀ (ps : List α) (i : Nat), (∀ h : i < ps.length, enc p' = (enc ps[i]).set k u) → (ps.flatMap enc).set (i * size + k) u = (ps.set i p').flatMap enc
  | [], i, _ => by simp
  | p :: ps, 0, h => by
    have := h (by simp)
    simp only [List.getElem_cons_zero] at this
    simp only [List.flatMap_cons, List.set_cons_zero, Nat.zero_mul, Nat.zero_add]
    rw [this, List.set_append_left _ _ (by rw [hsz]; exact hk)]
  | p :: ps, i + 1, h => by
    simp only [List.flatMap_cons, List.set_cons_succ]
    rw [← flat_set hsz hk u p' ps i (fun hi => by have := h (by simpa using hi); simpa using this), List.set_append_right _ _ (by rw [hsz, Nat.add_mul]; omega)]
    congr 2
    rw [hsz, Nat.add_mul]
    omega
/-- one field of one task is written -/
theorem PutOwn.stored {w : World} {base g n c : Nat} {ps : List (Tsk × Value)} (h : PutOwn w base (.slice (some ⟨g, 0, none⟩) n c) ps) {i k : Nat} (hi : i < ps.length) (hk : k < 9) {t : Tsk} {u : Value}
    (ht : encT (t, (ps[i]).2) = (encT ps[i]).set k u) (hr : t.regs = (ps[i]).1.regs) : PutOwn (w.setCell ⟨g, i * 9 + k, none⟩ u) base (.slice (some ⟨g, 0, none⟩) n c) (ps.set i (t, (ps[i]).2)) := by
  have hs := flat_set (enc := encT) (size := 9) (fun _ => rfl) hk u (t, (ps[i]).2) ps i (fun _ => ht)
  have hn : n = ps.length := by
    obtain ⟨_, _, e, _⟩ := h.1.form
    exact (Value.slice.inj e).2.1
  subst hn
  have hfar : ∀ p ∈ ps, RowI (w.setCell ⟨g, i * 9 + k, none⟩ u) base p.2 p.1.regs := fun p hp =>
    OwnL.set (h.2.1 p hp) (a := ⟨g, i * 9 + k, none⟩) (fun e => own_types h.1 (h.2.1 p hp) (by decide) g rfl e) u
  refine ⟨?_, fun p hp => ?_, ?_⟩
  · have := World.ownsRow.stored h.1 (i * 9 + k) u
    unfold OwnL
    rw [← hs, List.length_set]
    exact this.1
  · obtain ⟨j, hj, rfl⟩ := List.mem_iff_getElem.1 hp
    rw [List.getElem_set]
    split
    · rename_i e
      subst e
      show RowI _ _ (ps[i]).2 t.regs
      rw [hr]
      exact hfar _ (List.getElem_mem hi)
    · exact hfar _ (List.getElem_mem _)
  · have h3 := h.2.2
    rw [List.pairwise_iff_getElem] at h3 ⊢
    have e : ∀ j (hj : j < (ps.set i (t, (ps[i]).2)).length), ((ps.set i (t, (ps[i]).2))[j]).2 = (ps[j]'(by simpa using hj)).2 := fun j hj => by
      rw [List.getElem_set]
      split
      · rename_i e; subst e; rfl
      · rfl
    intro a b ha hb hab
    rw [e, e]
    exact h3 a b (by simpa using ha) (by simpa using hb) hab
theorem PutOwn.at {w : World} {base g n c : Nat} {ps : List (Tsk × Value)} (h : PutOwn w base (.slice (some ⟨g, 0, none⟩) n c) ps) {i k : Nat} (hi : i < ps.length) (hk : k < 9) : w.cell? ⟨g, i * 9 + k, none⟩ = (encT ps[i])[k]? := by
  have hn : n = ps.length := by
    obtain ⟨_, _, e, _⟩ := h.1.form
    exact (Value.slice.inj e).2.1
  subst hn
  have := World.ownsRow.cellAt h.1 (i * 9 + k) (by omega)
  rw [this]
  clear this h
  have : ∀ (ps : List (Tsk × Value)) (i : Nat) (hi : i < ps.length), (ps.flatMap encT)[i * 9 + k]? = (encT ps[i])[k]? := by
    intro ps
    induction ps with
    | nil => intro i hi; simp at hi
    | cons p ps ih =>
      intro i hi
      cases i with
      | zero =>
        simp only [List.flatMap_cons, List.getElem_cons_zero, Nat.zero_mul, Nat.zero_add]
        exact List.getElem?_append_left hk
      | succ i =>
        simp only [List.flatMap_cons, List.getElem_cons_succ]
        rw [List.getElem?_append_right (by show 9 ≤ _; omega), ← ih i (by simpa using hi)]
        congr 1
        show (i + 1) * 9 + k - 9 = _
        omega
  exact this ps i hi
theorem PutOwn.head {w : World} {base : Nat} {v : Value} {ps : List (Tsk × Value)} (h : PutOwn w base v ps) (hne : ps ≠ []) : ∃ g c, v = .slice (some ⟨g, 0, none⟩) ps.length c ∧ base ≤ g ∧ g < w.heap.size := by
  rcases h.1.2 with ⟨_, hn⟩ | ⟨g, cap, cur, hv, hg, hh, _⟩
  · exact absurd (List.length_eq_zero_iff.1 hn) hne
  · exact ⟨g, cap, hv, hg, (Array.getElem?_eq_some_iff.1 hh).1⟩
end Go.Proofs.YtniejidekflmiaaDoor
/- Stores into a set of the call's own: field by field. -/
namespace Go.Proofs.YtniejidekflmiaaDoor
open Go.RowKit

theorem PutOwn.cellS {w : World} {base g n c : Nat} {ps : List (Tsk × Value)} (h : PutOwn w base (.slice (some ⟨g, 0, none⟩) n c) ps) {i k : Nat} (hi : i < ps.length) (hk : k < 9) : (∃ v, w.cell? ⟨g, i * 9 + k, none⟩ = some v) ∧ w.frozen? ⟨g, i * 9 + k, none⟩ = false := by
  refine ⟨?_, ?_⟩
  · have := h.at (i := i) (k := k) hi hk
    rw [this]
    have hl : k < (encT ps[i]).length := hk
    exact ⟨_, List.getElem?_eq_getElem hl⟩
  · obtain ⟨_, _, e, _⟩ := h.1.form
    obtain ⟨_, rfl, _⟩ := Value.slice.inj e
    exact World.ownsRow.frozenAt h.1 (i * 9 + k)
theorem PutOwn.stored2 {w : World} {base g n c : Nat} {ps : List (Tsk × Value)} (h : PutOwn w base (.slice (some ⟨g, 0, none⟩) n c) ps) {i k : Nat} (hi : i < ps.length) (hk : k < 9) {t0 t : Tsk} {r u : Value} (hp : ps[i] = (t0, r))
    (ht : encT (t, r) = (encT (t0, r)).set k u) (hr : t.regs = t0.regs) : PutOwn (w.setCell ⟨g, i * 9 + k, none⟩ u) base (.slice (some ⟨g, 0, none⟩) n c) (ps.set i (t, r)) := by
  have := h.stored (i := i) (k := k) hi hk (t := t) (u := u) (by rw [hp]; exact ht) (by rw [hp]; exact hr)
  rw [hp] at this
  exact this
theorem map_at {ps : List (Tsk × Value)} {i : Nat} (hi : i < ps.length) {t0 : Tsk} {r : Value} (hp : ps[i] = (t0, r)) (f : Tsk → Tsk) : (ps.set i (f t0, r)).map (·.1) = (ps.map (·.1)).modify i f := by
  refine List.ext_getElem (by simp) fun j h1 h2 => ?_
  simp only [List.getElem_map, List.getElem_set, List.getElem_modify]
  split
  · rename_i e; subst e; rw [hp]
  · rfl
/-- the call's own box of a set stands, what was there before it too -/
def BoxS (w1 : World) (gb : Nat) (cs : Array Value) (t : TypeId) (w : World) : Prop := Ext w1 w ∧ Blk w gb cs t
theorem BoxS.ext {w1 w w' : World} {gb : Nat} {cs : Array Value} {t : TypeId} (h : BoxS w1 gb cs t w) (hx : Ext w w') : BoxS w1 gb cs t w' := ⟨h.1.trans hx, h.2.ext hx⟩
theorem BoxS.set {w1 w : World} {gb : Nat} {cs : Array Value} {t : TypeId} (h : BoxS w1 gb cs t w) {g i : Nat} (hg : w1.heap.size ≤ g) (hne : gb ≠ g) (u : Value) : BoxS w1 gb cs t (w.setCell ⟨g, i, none⟩ u) := ⟨h.1.set hg u, h.2.far (p := ⟨g, i, none⟩) hne u⟩
theorem BoxS.at {w1 w : World} {gb : Nat} {cs : Array Value} {t : TypeId} (h : BoxS w1 gb cs t w) (j : Nat) : w.cell? ⟨gb, j, none⟩ = cs[j]? := h.2.cell j
end Go.Proofs.YtniejidekflmiaaDoor
