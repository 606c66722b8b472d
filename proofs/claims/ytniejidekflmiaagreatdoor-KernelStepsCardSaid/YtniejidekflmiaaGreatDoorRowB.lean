/- A block that is a row of structs. -/
import Derived.Test.YtniejidekflmiaaGreatDoorProg
import Derived.Test.YtniejidekflmiaaGreatDoorBase
import Derived.Test.YtniejidekflmiaaGreatDoorHeldX
import Derived.Test.YtniejidekflmiaaGreatDoorApp
import Derived.Test.YtniejidekflmiaaGreatDoorExt0
import Derived.Test.YtniejidekflmiaaGreatDoorChg
import Derived.OwnWalk
namespace Go.Proofs.YtniejidekflmiaaGreatDoor
open Go.RowKit
theorem own_empty_n {w : World} {base size : Nat} {e : TypeId} (hb : base ≤ w.heap.size) : (w.alloc (.cells #[] e)).ownsRow base e size (.slice (some ⟨w.heap.size, 0, none⟩) 0 0) 0 [] :=
  World.ownsRow_made w #[] 0 hb (Nat.zero_le _) (by simp)
section
variable {α : Type} {enc : α → List Value} {size : Nat}
theorem flat_get (hsz : ∀ x, (enc x).length = size) {j : Nat} (hj : j < size) : ∀ (xs : List α) (i : Nat) (hi : i < xs.length), (xs.flatMap enc)[i * size + j]? = (enc xs[i])[j]?
  | [], _, hi => by simp at hi
  | x :: xs, 0, _ => by
    simp only [List.flatMap_cons, List.getElem_cons_zero, Nat.zero_mul, Nat.zero_add]
    exact List.getElem?_append_left (by rw [hsz]; exact hj)
  | x :: xs, i + 1, hi => by
    simp only [List.flatMap_cons, List.getElem_cons_succ]
    rw [List.getElem?_append_right (by rw [hsz, Nat.add_mul]; omega), ← flat_get hsz hj xs i (by simpa using hi), hsz, show (i + 1) * size + j - size = i * size + j by rw [Nat.add_mul]; omega]
theorem flat_put (hsz : ∀ x, (enc x).length = size) {k : Nat} (hk : k < size) (u : Value) (p' : α) : ∀ (ps : List α) (i : Nat), (∀ h : i < ps.length, enc p' = (enc ps[i]).set k u) → (ps.flatMap enc).set (i * size + k) u = (ps.set i p').flatMap enc
  | [], i, _ => by simp
  | p :: ps, 0, h => by
    have := h (by simp)
    simp only [List.getElem_cons_zero] at this
    simp only [List.flatMap_cons, List.set_cons_zero, Nat.zero_mul, Nat.zero_add]
    rw [this, List.set_append_left _ _ (by rw [hsz]; exact hk)]
  | p :: ps, i + 1, h => by
    simp only [List.flatMap_cons, List.set_cons_succ]
    rw [← flat_put hsz hk u p' ps i (fun hi => by have := h (by simpa using hi); simpa using this), List.set_append_right _ _ (by rw [hsz, Nat.add_mul]; omega)]
    congr 2
    rw [hsz, Nat.add_mul]
    omega
/-- block g is the row xs -/
def RowBk (enc : α → List Value) (w : World) (g : Nat) (t : TypeId) (xs : List α) : Prop := Blk w g (xs.flatMap enc).toArray t
variable {w w' : World} {g : Nat} {t : TypeId} {xs : List α}
theorem RowBk.at (h : RowBk enc w g t xs) (hsz : ∀ x, (enc x).length = size) {i j : Nat} (hi : i < xs.length) (hj : j < size) : w.cell? ⟨g, i * size + j, none⟩ = (enc xs[i])[j]? := by
  unfold RowBk at h
  rw [h.cell, List.getElem?_toArray]
  exact flat_get hsz hj xs i hi
theorem RowBk.free (h : RowBk enc w g t xs) (i : Nat) : w.frozen? ⟨g, i, none⟩ = false := Blk.free h i
theorem RowBk.set (h : RowBk enc w g t xs) (hsz : ∀ x, (enc x).length = size) {i j : Nat} (hj : j < size) {u : Value} {x' : α} (he : ∀ hi : i < xs.length, enc x' = (enc xs[i]).set j u) : RowBk enc (w.setCell ⟨g, i * size + j, none⟩ u) g t (xs.set i x') := by
  unfold RowBk at h ⊢
  have := Blk.set h (i * size + j) u
  rw [List.setIfInBounds_toArray, flat_put hsz hj u x' xs i he] at this
  exact this
theorem RowBk.ext (h : RowBk enc w g t xs) (hx : Ext w w') : RowBk enc w' g t xs := Blk.ext h hx
theorem RowBk.chg {F : Nat → Prop} (h : RowBk enc w g t xs) (hx : Chg F w w') (hF : ¬ F g) : RowBk enc w' g t xs := Blk.chg h hx hF
end
end Go.Proofs.YtniejidekflmiaaGreatDoor
/- Stores into a row of the call's own. -/
namespace Go.Proofs.YtniejidekflmiaaGreatDoor
open Go.RowKit
section
variable {α : Type} {enc : α → List Value} {size base g n c : Nat} {e : TypeId} {w : World} {xs : List α}
theorem OwnL.some' {v : Value} (h : OwnL enc w base e size v xs) (hne : 0 < xs.length) : ∃ g c, v = .slice (some ⟨g, 0, none⟩) xs.length c ∧ base ≤ g ∧ ∃ cs, Blk w g cs e := by
  rcases h.2 with ⟨_, hn⟩ | ⟨g, cap, cur, hv, hg, hh, _⟩
  · omega
  · exact ⟨g, cap, hv, hg, _, hh⟩
theorem OwnL.cellAt (h : OwnL enc w base e size (.slice (some ⟨g, 0, none⟩) n c) xs) (hsz : ∀ x, (enc x).length = size) {i j : Nat} (hi : i < xs.length) (hj : j < size) : w.cell? ⟨g, i * size + j, none⟩ = (enc xs[i])[j]? := by
  have hn : n = xs.length := by
    obtain ⟨_, _, e, _⟩ := h.form
    exact (Value.slice.inj e).2.1
  subst hn
  have hle : i * size + j < xs.length * size := by
    have h1 : (i + 1) * size ≤ xs.length * size := Nat.mul_le_mul_right _ hi
    rw [Nat.add_mul] at h1
    omega
  rw [World.ownsRow.cellAt h (i * size + j) hle]
  exact flat_get hsz hj xs i hi
theorem OwnL.freeAt (h : OwnL enc w base e size (.slice (some ⟨g, 0, none⟩) n c) xs) (i : Nat) : w.frozen? ⟨g, i, none⟩ = false := by
  have hn : n = xs.length := by
    obtain ⟨_, _, e, _⟩ := h.form
    exact (Value.slice.inj e).2.1
  subst hn
  exact World.ownsRow.frozenAt h i
theorem OwnL.stored (h : OwnL enc w base e size (.slice (some ⟨g, 0, none⟩) n c) xs) (hsz : ∀ x, (enc x).length = size) {i j : Nat} (hj : j < size) {u : Value} {x' : α} (he : ∀ hi : i < xs.length, enc x' = (enc xs[i]).set j u) :
    OwnL enc (w.setCell ⟨g, i * size + j, none⟩ u) base e size (.slice (some ⟨g, 0, none⟩) n c) (xs.set i x') := by
  have hn : n = xs.length := by
    obtain ⟨_, _, e, _⟩ := h.form
    exact (Value.slice.inj e).2.1
  subst hn
  have := (World.ownsRow.stored h (i * size + j) u).1
  unfold OwnL
  rw [List.length_set, ← flat_put hsz hj u x' xs i he]
  exact this
/-- the same row, told otherwise -/
theorem OwnL.recode {β : Type} {enc' : β → List Value} {v : Value} (f : α → β) (hf : ∀ x, enc' (f x) = enc x) : OwnL enc w base e size v xs ↔ OwnL enc' w base e size v (xs.map f) := by
  unfold OwnL
  rw [List.length_map, List.flatMap_map, show (fun x => enc' (f x)) = enc from funext hf]
/-- two stores into one element -/
theorem OwnL.stored2 (h : OwnL enc w base e size (.slice (some ⟨g, 0, none⟩) n c) xs) (hsz : ∀ x, (enc x).length = size) {i j k : Nat} (hj : j < size) (hk : k < size) {u u' : Value} {x' : α} (he : ∀ hi : i < xs.length, enc x' = ((enc xs[i]).set j u).set k u') :
    OwnL enc ((w.setCell ⟨g, i * size + j, none⟩ u).setCell ⟨g, i * size + k, none⟩ u') base e size (.slice (some ⟨g, 0, none⟩) n c) (xs.set i x') := by
  have hsz' : ∀ l : { l : List Value // l.length = size }, l.1.length = size := fun l => l.2
  have h1 := (OwnL.recode (enc' := fun l : { l : List Value // l.length = size } => l.1) (fun x => ⟨enc x, hsz x⟩) (fun x => rfl)).1 h
  by_cases hi : i < xs.length
  · have h2 := h1.stored hsz' (i := i) (j := j) hj (u := u) (x' := ⟨(enc xs[i]).set j u, by rw [List.length_set]; exact hsz _⟩) (fun hi' => by simp)
    have h3 := h2.stored hsz' (i := i) (j := k) hk (u := u') (x' := ⟨((enc xs[i]).set j u).set k u', by rw [List.length_set, List.length_set]; exact hsz _⟩) (fun hi' => by simp)
    refine (OwnL.recode (enc' := fun l : { l : List Value // l.length = size } => l.1) (fun x => ⟨enc x, hsz x⟩) (fun x => rfl)).2 ?_
    rw [List.set_set] at h3
    rw [List.map_set]
    have : (⟨enc x', hsz x'⟩ : { l : List Value // l.length = size }) = ⟨((enc xs[i]).set j u).set k u', by rw [List.length_set, List.length_set]; exact hsz _⟩ := Subtype.ext (he hi)
    rw [this]
    exact h3
  · have h2 := h.stored hsz (i := i) (j := j) hj (u := u) (x' := x') (fun hi' => absurd hi' hi)
    have h3 := h2.stored hsz (i := i) (j := k) hk (u := u') (x' := x') (fun hi' => absurd hi' (by rw [List.length_set]; exact hi))
    rw [List.set_set] at h3
    exact h3
end
end Go.Proofs.YtniejidekflmiaaGreatDoor
