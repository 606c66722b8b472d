/- Several operations that are ready at once: an invariant over what is listed. -/
import Derived.Test.YtknfdjnbndfboabGreatDoorProg
import Derived.Test.YtknfdjnbndfboabGreatDoorHeldX
import Derived.Test.YtknfdjnbndfboabGreatDoorTskP
namespace Go.Proofs.YtknfdjnbndfboabGreatDoor
open Go.RowKit
section
variable {P : Program} {ops : Array Oper} {S : World → Prop} {R : Act → World → Prop}
theorem wpX_rule (I : Nat → Array Bool → Act → World → Prop) {f' : Nat} (h0 : ∀ l a w, I 0 l a w → wpX P ops S R f' l a w)
    (hs : ∀ n l a w, I (n + 1) l a w → Region.ready .any ops l ≠ [] ∧ ∀ i ∈ Region.ready .any ops l, ∀ w', Ext w w' → wpOp P ops qNone i (fun a' w'' => S w'' ∧ I n (l.setIfInBounds i true) a' w'') a w') :
    ∀ n l a w, I n l a w → wpX P ops S R (f' + n) l a w
  | 0, l, a, w, h => h0 l a w h
  | n + 1, l, a, w, h => by
    obtain ⟨h1, h2⟩ := hs n l a w h
    refine ⟨fun e => absurd e h1, fun i hi w' hx => ?_⟩
    exact wpOp_mono (fun a' w'' hk => ⟨hk.1, wpX_rule I h0 hs n _ _ _ hk.2⟩) (h2 i hi w' hx)
theorem wpOp_one {I : Act → World → Prop} {i : Nat} {o : Oper} {a : Act} {w : World} (ho : ops[i]? = some o) (hg : o.guard = none)
    (h : ∀ K : Act → World → Prop, (∀ a' w'', S w'' → I a' w'' → K a' w'') → o.wp P a w K qNone) : wpOp P ops qNone i (fun a' w'' => S w'' ∧ I a' w'') a w := by
  unfold wpOp
  simp only [ho]
  rw [show Region.wanted o (yielded ops a.tmps) = true by simp [Region.wanted, hg], if_pos rfl]
  exact .inl (h _ fun a' w'' he hk => ⟨he, hk⟩)
end
theorem PutOwn.far {w : World} {base g n c g' n' c' : Nat} {ps ps' : List (Tsk × Value)} (h : PutOwn w base (.slice (some ⟨g, 0, none⟩) n c) ps) (h' : PutOwn w base (.slice (some ⟨g', 0, none⟩) n' c') ps') (hne : g ≠ g') (i : Nat) (u : Value) :
    PutOwn (w.setCell ⟨g', i, none⟩ u) base (.slice (some ⟨g, 0, none⟩) n c) ps :=
  ⟨OwnL.set h.1 (a := ⟨g', i, none⟩) (fun e => hne (Option.some.inj e)) u, fun p hp => OwnL.set (h.2.1 p hp) (a := ⟨g', i, none⟩) (fun e => own_types h'.1 (h.2.1 p hp) (by decide) g' rfl e) u, h.2.2⟩
theorem PutOwn.lower {w : World} {base b : Nat} {v : Value} {ps : List (Tsk × Value)} (h : PutOwn w base v ps) (hb : b ≤ base) : PutOwn w b v ps :=
  ⟨OwnL.lower h.1 hb, fun p hp => OwnL.lower (h.2.1 p hp) hb, h.2.2⟩
end Go.Proofs.YtknfdjnbndfboabGreatDoor
