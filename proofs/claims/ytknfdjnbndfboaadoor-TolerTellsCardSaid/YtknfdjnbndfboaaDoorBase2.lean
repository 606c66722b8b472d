/- Small words, more: cells past an alloc. -/
import Derived.Test.YtknfdjnbndfboaaDoorBase
import Derived.WalkKit
namespace Go.Proofs.YtknfdjnbndfboaaDoor
theorem cell_past {w : World} {b o : Nat} {u : Value} (h : w.cell? ⟨b, o, none⟩ = some u) (x : Obj) : (w.alloc x).cell? ⟨b, o, none⟩ = some u := by
  rw [World.cell?_alloc_past _ _ _ (World.block_lt_of_cell? w ⟨b, o, none⟩ h)]
  exact h
end Go.Proofs.YtknfdjnbndfboaaDoor
