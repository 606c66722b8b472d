/- Rows of numbers, blocks, worlds that have grown. -/
import Derived.Test.YtniejidekflmiaaGreatDoorProg
import Derived.Test.YtniejidekflmiaaGreatDoorBase
import Derived.Test.YtniejidekflmiaaGreatDoorHeldX
import Derived.Test.YtniejidekflmiaaGreatDoorApp
import Derived.WalkKit
import Derived.Maps.AppendAt
import Derived.Deep.DeepMust
namespace Go.Proofs.YtniejidekflmiaaGreatDoor
open Go.RowKit

/-- v reads as the numbers xs -/
def Ints (w : World) (v : Value) (xs : List Int) : Prop :=
  ∃ A c, v = .slice A xs.length c ∧ xs.length ≤ c ∧ c ≤ maxLen ∧ (xs ≠ [] → ∃ b o, A = some ⟨b, o, none⟩ ∧ ∀ i (h : i < xs.length), w.cell? ⟨b, o + i, none⟩ = some (.int .i64 xs[i]))
theorem Ints.below {w w' : World} {v : Value} {xs : List Int} (h : Ints w v xs) (hb : Below w.heap.size w w') : Ints w' v xs := by
  obtain ⟨A, c, rfl, h1, h2, h3⟩ := h
  refine ⟨A, c, rfl, h1, h2, fun hne => ?_⟩
  obtain ⟨b, o, e, hx⟩ := h3 hne
  exact ⟨b, o, e, fun i hi => (Keeps.below hb Any).cell trivial (hx i hi)⟩
theorem Ints.alloc {w : World} {v : Value} {xs : List Int} (h : Ints w v xs) (o : Obj) : Ints (w.alloc o) v xs := h.below ((Below.refl _ _).alloc (Nat.le_refl _) o)
theorem Ints.ext {w w' : World} {v : Value} {xs : List Int} (h : Ints w v xs) (hx : Ext w w') : Ints w' v xs := h.below hx.below
theorem Ints.at {w : World} {A : Option Addr} {n c : Nat} {xs : List Int} (h : Ints w (.slice A n c) xs) {k : Nat} (hk : k < xs.length) : ∃ b o, A = some ⟨b, o, none⟩ ∧ ∀ w', Ext w w' → w'.cell? ⟨b, o + k, none⟩ = some (.int .i64 xs[k]) := by
  obtain ⟨A', c', e1, _, _, h3⟩ := h
  obtain ⟨rfl, _, rfl⟩ := Value.slice.inj e1
  obtain ⟨b, o, e, hx⟩ := h3 (fun e => by rw [e] at hk; simp at hk)
  exact ⟨b, o, e, fun w' h => h.cell (hx k hk)⟩
theorem Blk.ext {w w' : World} {g : Nat} {t : TypeId} {cs : Array Value} (h : Blk w g cs t) (hx : Ext w w') : Blk w' g cs t := h.below hx.below h.lt
theorem Blk.under {w : World} {g : Nat} {t : TypeId} {cs : Array Value} (h : Blk w g cs t) : ∀ w', Ext w w' → ∀ i, w'.cell? ⟨g, i, none⟩ = cs[i]? := fun _ hx => (h.ext hx).cell
theorem Ext.set {W w : World} (h : Ext W w) {g i : Nat} (hg : W.heap.size ≤ g) (v : Value) : Ext W (w.setCell ⟨g, i, none⟩ v) := ⟨h.below.setCell hg _⟩
def encI (x : Int) : List Value := [.int .i64 x]
theorem infoI64 : (Tryz.prog.info? 2).map (fun i => (i.zero, i.size, i.bytes)) = some (some (.int .i64 0), 1, 8) := by kernel_rfl
/-- numbers of the call's own -/
def RowI (w : World) (base : Nat) (r : Value) (xs : List Int) : Prop := OwnL encI w base 2 1 r xs
theorem encI_flat (xs : List Int) : xs.flatMap encI = xs.map (Value.int .i64) := by
  induction xs with
  | nil => rfl
  | cons x xs ih => simp [List.flatMap_cons, encI, ih]
theorem RowI.ints {w : World} {base : Nat} {r : Value} {xs : List Int} (h : RowI w base r xs) : Ints w r xs := by
  have := h.read (R := IntR .i64) (F := Any) (fun _ => rfl) (fun _ _ _ => trivial) (fun b o x _ hx => hx 0 _ rfl)
  obtain ⟨A, c, e, h1, h2, h3⟩ := this
  refine ⟨A, c, e, h1, h2, fun hne => ?_⟩
  obtain ⟨b, o, e, _, hx⟩ := h3 hne
  exact ⟨b, o, e, fun i hi => by have := hx i hi; rw [Nat.mul_one] at this; exact this⟩
theorem own_types {α β : Type} {enc : α → List Value} {enc' : β → List Value} {w : World} {b b' : Nat} {e e' : TypeId} {s s' : Nat} {v v' : Value} {xs : List α} {ys : List β} (h : OwnL enc w b e s v xs) (h' : OwnL enc' w b' e' s' v' ys) (hne : e ≠ e') :
    ∀ k, v.ownBlock = some k → v'.ownBlock ≠ some k := by
  intro k hk hk'
  rcases h.2 with ⟨rfl, _⟩ | ⟨g, cap, cur, rfl, _, hh, _⟩
  · simp [Value.ownBlock] at hk
  · rcases h'.2 with ⟨rfl, _⟩ | ⟨g', cap', cur', rfl, _, hh', _⟩
    · simp [Value.ownBlock] at hk'
    · obtain rfl : g = k := by simpa [Value.ownBlock] using hk
      obtain rfl : g' = g := by simpa [Value.ownBlock] using hk'
      rw [hh] at hh'
      injection hh' with hh'
      injection hh' with _ ht
      exact hne ht
theorem Ints.news {w w' : World} {A : Option Addr} {n c : Nat} {xs : List Int} (h : Ints w (.slice A n c) xs) (hx : Ext w w') : 0 < n → ∃ b o, A = some ⟨b, o, none⟩ ∧ ∀ j u, (xs.map (Value.int .i64))[j]? = some u → w'.cell? ⟨b, o + j, none⟩ = some u := by
  obtain ⟨A', c', e1, _, _, h3⟩ := h
  obtain ⟨rfl, rfl, rfl⟩ := Value.slice.inj e1
  intro hn
  obtain ⟨b, o, e, hc⟩ := h3 (fun e => by rw [e] at hn; simp at hn)
  refine ⟨b, o, e, fun j u hu => ?_⟩
  rw [List.getElem?_map] at hu
  obtain ⟨y, hy, rfl⟩ := Option.map_eq_some_iff.1 hu
  obtain ⟨hj, rfl⟩ := List.getElem?_eq_some_iff.1 hy
  exact hx.cell (hc j hj)
theorem own_empty_at {w : World} {base : Nat} {e : TypeId} {g : Nat} (hg : g = w.heap.size) (hb : base ≤ w.heap.size) : (w.alloc (.cells #[] e)).ownsRow base e 1 (.slice (some ⟨g, 0, none⟩) 0 0) 0 [] := by
  subst hg
  exact World.ownsRow_made w #[] 0 hb (Nat.zero_le _) rfl
theorem own_slice {w : World} {base n : Nat} {e : TypeId} {size : Nat} {v : Value} {xs : List Value} (h : w.ownsRow base e size v n xs) : ∃ A c, v = .slice A n c := by
  rcases h.2 with ⟨rfl, rfl⟩ | ⟨g, cap, cur, rfl, _⟩
  · exact ⟨none, 0, rfl⟩
  · exact ⟨_, cap, rfl⟩
theorem Ext.of_grown {w w1 w2 : World} (h : Ext w w1) {g : Nat} (hg : w1.grownBy w2 (some g)) (hge : w.heap.size ≤ g) : Ext w w2 := h.grown hg (fun k e => by cases e; exact hge)

theorem own_ne_blk {α : Type} {enc : α → List Value} {w : World} {b : Nat} {e t : TypeId} {s g : Nat} {v : Value} {xs : List α} {cs : Array Value} (h : OwnL enc w b e s v xs) (hB : Blk w g cs t) (hne : e ≠ t) : v.ownBlock ≠ some g := by
  intro hk
  rcases h.2 with ⟨rfl, _⟩ | ⟨g', cap, cur, rfl, _, hh, _⟩
  · simp [Value.ownBlock] at hk
  · obtain rfl : g' = g := by simpa [Value.ownBlock] using hk
    unfold Blk at hB
    rw [hh] at hB
    injection hB with hB
    injection hB with _ ht
    exact hne ht
theorem infoPI : (Tryz.prog.info? 3).map (fun i => (i.zero, i.size, i.bytes)) = some (some (.int .i64 0), 1, 8) := by kernel_rfl
/-- a row of ints of the call's own -/
def RowP (w : World) (base : Nat) (r : Value) (xs : List Int) : Prop := OwnL encI w base 3 1 r xs
theorem RowP.ints {w : World} {base : Nat} {r : Value} {xs : List Int} (h : RowP w base r xs) : Ints w r xs := by
  have := OwnL.read h (R := fun w b o x => w.cell? ⟨b, o, none⟩ = some (.int .i64 x)) (F := Any) (fun _ => rfl) (fun _ _ _ => trivial) (fun b o p hp hx => by have := hx 0 _ rfl; exact this)
  obtain ⟨A, c, e, h1, h2, h3⟩ := this
  refine ⟨A, c, e, h1, h2, fun hne => ?_⟩
  obtain ⟨b, o, e, _, hx⟩ := h3 hne
  exact ⟨b, o, e, fun i hi => by have := hx i hi; rwa [Nat.mul_one] at this⟩
end Go.Proofs.YtniejidekflmiaaGreatDoor
