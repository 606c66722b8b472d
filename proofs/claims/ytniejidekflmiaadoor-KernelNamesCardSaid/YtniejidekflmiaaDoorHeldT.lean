/- Three operations that may come in any order. -/
import Derived.Test.YtniejidekflmiaaDoorProg
import Derived.Test.YtniejidekflmiaaDoorBase
import Derived.Test.YtniejidekflmiaaDoorHeldX
import Derived.WalkKit
namespace Go.Proofs.YtniejidekflmiaaDoor
open Go.RowKit
section
variable {P : Program} {ops : Array Oper} {S : World → Prop} {R : Act → World → Prop}
theorem wpX_three {i j l : Nat} {oi oj ol : Oper} {f : Nat} {listed : Array Bool} {a : Act} {w : World} (hr : Region.ready .any ops listed = [i, j, l]) (hi : ops[i]? = some oi) (hj : ops[j]? = some oj) (hl : ops[l]? = some ol) (hgi : oi.guard = none) (hgj : oj.guard = none) (hgl : ol.guard = none)
    (h1 : ∀ w', Ext w w' → ∀ K : Act → World → Prop, (∀ a' w'', S w'' → wpX P ops S R f (listed.setIfInBounds i true) a' w'' → K a' w'') → oi.wp P a w' K qNone)
    (h2 : ∀ w', Ext w w' → ∀ K : Act → World → Prop, (∀ a' w'', S w'' → wpX P ops S R f (listed.setIfInBounds j true) a' w'' → K a' w'') → oj.wp P a w' K qNone)
    (h3 : ∀ w', Ext w w' → ∀ K : Act → World → Prop, (∀ a' w'', S w'' → wpX P ops S R f (listed.setIfInBounds l true) a' w'' → K a' w'') → ol.wp P a w' K qNone) : wpX P ops S R (f + 1) listed a w := by
  refine ⟨fun h0 => (by rw [h0] at hr; cases hr), fun k hk w' hx => ?_⟩
  rw [hr] at hk
  unfold wpOp
  rcases List.mem_cons.1 hk with rfl | hk
  · simp only [hi]
    rw [show Region.wanted oi (yielded ops a.tmps) = true by simp [Region.wanted, hgi], if_pos rfl]
    exact .inl (h1 w' hx _ fun a' w'' he hk => ⟨he, hk⟩)
  · rcases List.mem_cons.1 hk with rfl | hk
    · simp only [hj]
      rw [show Region.wanted oj (yielded ops a.tmps) = true by simp [Region.wanted, hgj], if_pos rfl]
      exact .inl (h2 w' hx _ fun a' w'' he hk => ⟨he, hk⟩)
    · obtain rfl : k = l := by simpa using hk
      simp only [hl]
      rw [show Region.wanted ol (yielded ops a.tmps) = true by simp [Region.wanted, hgl], if_pos rfl]
      exact .inl (h3 w' hx _ fun a' w'' he hk => ⟨he, hk⟩)
/-- a region after which four numbers are known to be, but not which -/
theorem wp_region_mix4 {Q : Exit → Act → World → Prop} {id : Nat} {T : List Nat} {a : Act} {w W : World} (G : Nat → Nat → Nat → Nat → World → Prop) {F : Nat → Nat → Nat → Nat → Act} (hSx : ∀ w w', S w → Ext w w' → S w') (hm : P.follows .mixedOrders = true) (hok : mixOk ops T = true) (hx : Ext W w.drew) (hS : S W)
    (h : ∀ K : Act → Prop, (∀ a', wpX P ops S (fun a w => ∃ x1 x2 x3 x4, a = F x1 x2 x3 x4 ∧ G x1 x2 x3 x4 w) T.length (lxOf ops.size T) a' W → K a') → hX P ops S T K 0 ops.toList a) (hR : ∀ x1 x2 x3 x4 w, G x1 x2 x3 x4 w → Q .normal (F x1 x2 x3 x4) w) : (Code.region id ops true).wp P Q a w :=
  wp_region_mix hSx hm hok hx hS (fun _ w ⟨x1, x2, x3, x4, e, h⟩ => e ▸ hR x1 x2 x3 x4 w h) h
end
end Go.Proofs.YtniejidekflmiaaDoor
