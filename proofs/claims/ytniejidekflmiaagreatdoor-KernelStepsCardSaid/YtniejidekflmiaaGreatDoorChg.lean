/- What a call may have changed: the blocks of F, and new ones. -/
import Derived.Test.YtniejidekflmiaaGreatDoorProg
import Derived.Test.YtniejidekflmiaaGreatDoorBase
import Derived.Test.YtniejidekflmiaaGreatDoorHeldX
import Derived.Test.YtniejidekflmiaaGreatDoorApp
import Derived.Test.YtniejidekflmiaaGreatDoorExt0
import Derived.OwnWalk
import Derived.Maps.AppendAt
namespace Go.Proofs.YtniejidekflmiaaGreatDoor
open Go.RowKit

structure Chg (F : Nat → Prop) (w w' : World) : Prop where
  os : w'.os = w.os
  tape : w'.tape = w.tape
  output : w'.output = w.output
  size : w.heap.size ≤ w'.heap.size
  block : ∀ k, k < w.heap.size → ¬ F k → w'.heap[k]? = w.heap[k]?
section
variable {F G : Nat → Prop} {w w' w'' W : World}
theorem Chg.refl (F : Nat → Prop) (w : World) : Chg F w w := ⟨rfl, rfl, rfl, Nat.le_refl _, fun _ _ _ => rfl⟩
theorem Chg.trans (h : Chg F w w') (k : Chg F w' w'') : Chg F w w'' :=
  ⟨k.os.trans h.os, k.tape.trans h.tape, k.output.trans h.output, Nat.le_trans h.size k.size, fun i hi hF => (k.block i (Nat.lt_of_lt_of_le hi h.size) hF).trans (h.block i hi hF)⟩
/-- a second change, whose blocks are the first one's or new -/
theorem Chg.andThen (h : Chg F w w') (k : Chg G w' w'') (hG : ∀ i, i < w.heap.size → G i → F i) : Chg F w w'' :=
  ⟨k.os.trans h.os, k.tape.trans h.tape, k.output.trans h.output, Nat.le_trans h.size k.size, fun i hi hF => (k.block i (Nat.lt_of_lt_of_le hi h.size) (fun g => hF (hG i hi g))).trans (h.block i hi hF)⟩
theorem Chg.to (h : Chg F w w') (hG : ∀ i, i < w.heap.size → F i → G i) : Chg G w w' := ⟨h.os, h.tape, h.output, h.size, fun i hi hF => h.block i hi (fun g => hF (hG i hi g))⟩
theorem Chg.of_ext (h : Ext w w') : Chg F w w' := ⟨h.below.os, h.below.tape, h.below.output, h.below.size, fun k hk _ => h.below.block k hk⟩
theorem Chg.of_below (h : Below w.heap.size w w') : Chg F w w' := .of_ext ⟨h⟩
theorem Chg.of_grown {row : Option Nat} (h : w.grownBy w' row) (hF : ∀ k, row = some k → F k) : Chg F w w' :=
  ⟨h.os, h.tape, h.output, h.size, fun k hk hn => h.block k hk (fun e => hn (hF k e.symm))⟩
theorem Chg.grown {row : Option Nat} (h : Chg F w w') (hg : w'.grownBy w'' row) (hF : ∀ k, row = some k → k < w.heap.size → F k) : Chg F w w'' :=
  h.andThen (G := fun k => row = some k) (.of_grown hg fun _ e => e) (fun i hi e => hF i e hi)
theorem Chg.ext (h : Chg F w w') (hx : Ext w' w'') : Chg F w w'' := h.trans (.of_ext hx)
theorem Chg.call (h : Chg F w w') (hx : Below w'.heap.size w' w'') : Chg F w w'' := h.trans (.of_below hx)
theorem Chg.drew (h : Chg F w w') : Chg F w w'.drew := ⟨h.os, h.tape, h.output, h.size, h.block⟩
theorem Chg.drewN (h : Chg F w w') (n : Nat) : Chg F w (w'.drewN n) := ⟨h.os, h.tape, h.output, h.size, h.block⟩
theorem Chg.alloc (h : Chg F w w') (o : Obj) : Chg F w (w'.alloc o) := h.ext ((Ext.refl _).alloc o)
theorem Chg.set (h : Chg F w w') {g i : Nat} (hF : F g ∨ w.heap.size ≤ g) (v : Value) : Chg F w (w'.setCell ⟨g, i, none⟩ v) :=
  ⟨h.os, h.tape, h.output, by simpa [World.setCell] using h.size, fun k hk hn => by
    have hne : k ≠ g := by
      rintro rfl
      rcases hF with hF | hF
      · exact hn hF
      · omega
    rw [Below.heap_setCell w' ⟨g, i, none⟩ v k hne]
    exact h.block k hk hn⟩
/-- nothing that was there has changed -/
theorem Chg.below (h : Chg F w w') {B : Nat} (hB : B ≤ w.heap.size) (hF : ∀ k, F k → B ≤ k) : Below B w w' :=
  ⟨h.os, h.tape, h.output, h.size, fun k hk => h.block k (by omega) (fun f => by have := hF k f; omega)⟩
theorem Ext.chg (hx : Ext W w) (h : Chg F w w') (hF : ∀ k, F k → W.heap.size ≤ k) : Ext W w' := ⟨hx.below.trans (h.below hx.size hF)⟩
theorem Blk.chg {g : Nat} {t : TypeId} {cs : Array Value} (h : Blk w g cs t) (hx : Chg F w w') (hF : ¬ F g) : Blk w' g cs t := (hx.block g h.lt hF).trans h
theorem OwnL.chg {α : Type} {enc : α → List Value} {base size : Nat} {e : TypeId} {v : Value} {xs : List α} (h : OwnL enc w base e size v xs) (hx : Chg F w w') (hF : ∀ k, v.ownBlock = some k → ¬ F k) : OwnL enc w' base e size v xs := by
  obtain ⟨h1, h2⟩ := h
  refine ⟨h1, ?_⟩
  rcases h2 with h2 | ⟨g, cap, cur, hv, hg, hh, r⟩
  · exact .inl h2
  · exact .inr ⟨g, cap, cur, hv, hg, (hx.block g (Array.getElem?_eq_some_iff.1 hh).1 (hF g (by rw [hv]; rfl))).trans hh, r⟩
theorem cell_chg {b o : Nat} {v : Value} (h : w.cell? ⟨b, o, none⟩ = some v) (hx : Chg F w w') (hF : ¬ F b) : w'.cell? ⟨b, o, none⟩ = some v := by
  rw [World.cell?_of_block (w := w) (a := ⟨b, o, none⟩) (hx.block b (World.block_lt_of_cell? w ⟨b, o, none⟩ h) hF)]
  exact h
/-- the block a row of the call's own lies in has that row's type -/
theorem OwnL.block {α : Type} {enc : α → List Value} {base size : Nat} {e : TypeId} {v : Value} {xs : List α} (h : OwnL enc w base e size v xs) {k : Nat} (hk : v.ownBlock = some k) : ∃ cs, Blk w k cs e := by
  rcases h.2 with ⟨rfl, _⟩ | ⟨g, cap, cur, rfl, _, hh, _⟩
  · simp [Value.ownBlock] at hk
  · obtain rfl : g = k := by simpa [Value.ownBlock] using hk
    exact ⟨_, hh⟩
theorem Blk.type {g : Nat} {t t' : TypeId} {cs cs' : Array Value} (h : Blk w g cs t) (h' : Blk w g cs' t') : t = t' ∧ cs = cs' := by
  unfold Blk at h h'
  rw [h] at h'
  injection h' with h'
  injection h' with h1 h2
  exact ⟨h2, h1⟩
theorem Blk.apart {g g' : Nat} {t t' : TypeId} {cs cs' : Array Value} (h : Blk w g cs t) (h' : Blk w g' cs' t') (hne : t ≠ t') : g ≠ g' := by
  rintro rfl
  exact hne (h.type h').1
/-- the blocks from base on of these types -/
def OfT (w : World) (base : Nat) (ts : List TypeId) (k : Nat) : Prop := base ≤ k ∧ ∃ t ∈ ts, ∃ cs, Blk w k cs t
theorem Blk.notT {base g : Nat} {t : TypeId} {cs : Array Value} {ts : List TypeId} (h : Blk w g cs t) (ht : ts.contains t = false) : ¬ OfT w base ts g := by
  rintro ⟨_, t', ht', cs', h'⟩
  have := (h.type h').1
  subst this
  rw [List.contains_iff_mem.2 ht'] at ht
  cases ht
theorem OwnL.notT {α : Type} {enc : α → List Value} {base b size : Nat} {e : TypeId} {v : Value} {xs : List α} {ts : List TypeId} (h : OwnL enc w b e size v xs) (ht : ts.contains e = false) : ∀ k, v.ownBlock = some k → ¬ OfT w base ts k := by
  intro k hk
  obtain ⟨cs, hB⟩ := h.block hk
  exact hB.notT ht
theorem Blk.ofT {base g : Nat} {t : TypeId} {cs : Array Value} {ts : List TypeId} (h : Blk w g cs t) (hb : base ≤ g) (ht : t ∈ ts) : OfT w base ts g := ⟨hb, t, ht, cs, h⟩
theorem OwnL.ofT {α : Type} {enc : α → List Value} {base b size : Nat} {e : TypeId} {v : Value} {xs : List α} {ts : List TypeId} (h : OwnL enc w b e size v xs) (hb : base ≤ b) (ht : e ∈ ts) : ∀ k, v.ownBlock = some k → OfT w base ts k := by
  intro k hk
  obtain ⟨cs, hB⟩ := h.block hk
  exact ⟨by have := (h.lt k hk).1; omega, e, ht, cs, hB⟩
/-- what is of such a type now was so then -/
theorem OfT.back {base base' k : Nat} {ts ts' : List TypeId} {w w' : World} (h : OfT w' base ts k) (hc : Chg (OfT w base' ts') w w') (hk : k < w.heap.size) (hb : base' ≤ base := by exact Nat.le_refl _) (hts : ∀ t ∈ ts, t ∈ ts' := by exact fun _ h => h) : OfT w base' ts' k := by
  obtain ⟨h1, t, ht, cs, hB⟩ := h
  by_cases hF : OfT w base' ts' k
  · exact hF
  · exact ⟨by omega, t, hts t ht, cs, (hc.block k hk hF).symm.trans hB⟩
theorem OwnL.slice2 {α : Type} {enc : α → List Value} {base size : Nat} {e : TypeId} {v : Value} {xs : List α} (h : OwnL enc w base e size v xs) : ∃ A c, v = .slice A xs.length c := by
  obtain ⟨A, c, e, _, _⟩ := h.form
  exact ⟨A, c, e⟩
end
end Go.Proofs.YtniejidekflmiaaGreatDoor
