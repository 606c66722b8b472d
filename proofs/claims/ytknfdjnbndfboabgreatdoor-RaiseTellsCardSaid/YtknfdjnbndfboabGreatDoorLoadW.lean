/- Rows of loads: how they read. -/
import Derived.Test.YtknfdjnbndfboabGreatDoorProg
import Derived.Test.YtknfdjnbndfboabGreatDoorBase
import Derived.Test.YtknfdjnbndfboabGreatDoorHeldX
import Derived.Test.YtknfdjnbndfboabGreatDoorTsk1
import Derived.Test.YtknfdjnbndfboabGreatDoorTsk3
import Derived.Test.YtknfdjnbndfboabGreatDoorNumP
import Derived.WalkKit
namespace Go.Proofs.YtknfdjnbndfboabGreatDoor
open Go.RowKit

def encLd (p : Ld) : List Value := [.int .i64 p.1, .int .i64 p.2]
/-- v reads as the loads l -/
def Loads (w : World) (v : Value) (l : List Ld) : Prop :=
  ∃ A c, v = .slice A l.length c ∧ l.length ≤ c ∧ c ≤ maxLen ∧ (l ≠ [] → ∃ b o, A = some ⟨b, o, none⟩ ∧ ∀ i (h : i < l.length), w.cell? ⟨b, o + i * 2, none⟩ = some (.int .i64 (l[i]).1) ∧ w.cell? ⟨b, o + i * 2 + 1, none⟩ = some (.int .i64 (l[i]).2))
theorem Loads.ext {w w' : World} {v : Value} {l : List Ld} (h : Loads w v l) (hx : Ext w w') : Loads w' v l := by
  obtain ⟨A, c, rfl, h1, h2, h3⟩ := h
  refine ⟨A, c, rfl, h1, h2, fun hne => ?_⟩
  obtain ⟨b, o, e, h4⟩ := h3 hne
  exact ⟨b, o, e, fun i hi => ⟨hx.cell (h4 i hi).1, hx.cell (h4 i hi).2⟩⟩
theorem Loads.at {w : World} {A : Option Addr} {n c : Nat} {l : List Ld} (h : Loads w (.slice A n c) l) {k : Nat} (hk : k < l.length) : ∃ b o, A = some ⟨b, o, none⟩ ∧
    (∀ w', Ext w w' → w'.cell? ⟨b, o + k * 2, none⟩ = some (.int .i64 (l[k]).1)) ∧ (∀ w', Ext w w' → w'.cell? ⟨b, o + k * 2 + 1, none⟩ = some (.int .i64 (l[k]).2)) := by
  obtain ⟨A', c', e1, _, _, h3⟩ := h
  obtain ⟨rfl, _, rfl⟩ := Value.slice.inj e1
  obtain ⟨b, o, e, hx⟩ := h3 (fun e => by rw [e] at hk; simp at hk)
  exact ⟨b, o, e, fun w' hw => hw.cell (hx k hk).1, fun w' hw => hw.cell (hx k hk).2⟩
theorem Loads.len {w : World} {v : Value} {l : List Ld} (h : Loads w v l) : l.length ≤ 9223372036854775807 := by
  obtain ⟨_, c, _, h1, h2, _⟩ := h
  unfold maxLen at h2
  omega
theorem OwnL.loads {w : World} {base : Nat} {v : Value} {l : List Ld} (h : OwnL encLd w base 79 2 v l) : Loads w v l := by
  have := h.read (R := fun w b o p => w.cell? ⟨b, o, none⟩ = some (.int .i64 p.1) ∧ w.cell? ⟨b, o + 1, none⟩ = some (.int .i64 p.2)) (F := Any) (fun _ => rfl) (fun _ _ _ => trivial) (fun b o p hp hx => ⟨hx 0 _ rfl, hx 1 _ rfl⟩)
  obtain ⟨A, c, e, h1, h2, h3⟩ := this
  refine ⟨A, c, e, h1, h2, fun hne => ?_⟩
  obtain ⟨b, o, e, _, hx⟩ := h3 hne
  exact ⟨b, o, e, hx⟩
end Go.Proofs.YtknfdjnbndfboabGreatDoor
