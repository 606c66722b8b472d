/- A set of texts, kept as a map from texts to bools. -/
import Derived.Test.YtniejidekflmiaaGreatDoorHeldX
import Derived.Maps.Views
import Derived.Maps.Own
import Derived.OpenShut
import Derived.StringKeys
namespace Go.Proofs.YtniejidekflmiaaGreatDoor
open Go.RowKit Go.Maps
open Go.WideMaps (keyOf_string_mk)

/-- block B is a map of at most n entries, from texts to bools, that says S -/
def SSet (P : Program) (k e : TypeId) (w : World) (B n : Nat) (S : List UInt8 → Bool) : Prop :=
  ∃ D : DataW Unit, w.ownsMap P k (plainElem P e) B n D ∧ IsMap D ∧ ∀ l, D.atKey (.string l) (.lit (.bool false)) = .lit (.bool (S l))
variable {P : Program} {k e t : TypeId} {w w' : World} {B n : Nat} {S : List UInt8 → Bool}
theorem SSet.made (w : World) (P : Program) (k e : TypeId) : SSet P k e (w.alloc (.map #[] 0)) w.heap.size 0 (fun _ => false) :=
  ⟨.map [], World.ownsMap_made _ _ _ _, isMap_empty, fun _ => rfl⟩
theorem SSet.lt (h : SSet P k e w B n S) : B < w.heap.size := by obtain ⟨D, h, _⟩ := h; exact h.lt
theorem SSet.ext (h : SSet P k e w B n S) (hx : Ext w w') : SSet P k e w' B n S := by
  obtain ⟨D, h, r⟩ := h
  exact ⟨D, h.kept (row := none) ⟨hx.below.os, hx.below.tape, hx.below.output, hx.below.size, fun i hi _ => hx.below.block i hi⟩ (by simp), r⟩
theorem plainElem_bool_inv (he : P.underlying e = some .bool) {v : Value} {z : DataW Unit × List MemPlace} (h : plainElem P e v = some z) : ∃ x, v = .bool x ∧ z = (.lit (.bool x), []) := by
  unfold plainElem at h
  rw [he] at h
  cases v <;> simp at h
  exact ⟨_, rfl, h.symm⟩
theorem SSet.look (h : SSet P k e w B n S) (hk : P.underlying k = some .string) (he : P.underlying e = some .bool) (ht : P.underlying t = some (.map k e)) (hz : (zeroValue e).run P w = .ok (.bool false) w) {s : ByteArray} (hs : s.size ≤ maxLen) :
    (Instr.lookup t (.map (some B)) (.string s) false).run P w = .ok (.bool (S s.data.toList)) w := by
  obtain ⟨D, h, _, hat⟩ := h
  obtain ⟨v, ps, hrun, hv⟩ := h.lookup (string_keyed hk) ht hz (plainElem_bool he false) (keyOf_string_mk hk hs)
  obtain ⟨x, rfl, hx⟩ := plainElem_bool_inv he hv
  rw [hat] at hx
  simp only [Prod.mk.injEq, DataW.lit.injEq, Lit.bool.injEq] at hx
  rw [hrun, hx.1]
theorem SSet.put (h : SSet P k e w B n S) (hk : P.underlying k = some .string) (he : P.underlying e = some .bool) (ht : P.underlying t = some (.map k e)) (hn : n < maxLen) {s : ByteArray} (hs : s.size ≤ maxLen) :
    ∃ w', (Instr.mapUpdate t (.map (some B)) (.string s) (.bool true)).run P w = .ok () w' ∧ SSet P k e w' B (n + 1) (fun l => S l || decide (l = s.data.toList)) ∧ w.grownBy w' (some B) := by
  obtain ⟨D, h, hm, hat⟩ := h
  obtain ⟨w', hrun, hown, hg⟩ := h.update (string_keyed hk) ht hn (keyOf_string_mk hk hs) (plainElem_bool he true)
  refine ⟨w', hrun, ⟨_, hown, hm.put _ _, fun l => ?_⟩, hg⟩
  by_cases hl : l = s.data.toList
  · subst hl
    rw [atKey_put_same hm (by simp [WideAt.IsKeyLit])]
    simp
  · rw [atKey_put_other (by simpa using hl), hat]
    simp [hl]
theorem wpList_put_set {ops : Array Oper} {rest : List Oper} {o : Oper} {a : Act} {Q : Exit → Act → World → Prop} (hg : o.guard = none) (m x v : Operand) (hop : o.op = Op.mapUpdate t m x v)
    (hk : P.underlying k = some .string) (he : P.underlying e = some .bool) (ht : P.underlying t = some (.map k e)) (hm : a.eval m = .map (some B)) (hn : n < maxLen) (s : ByteArray) (hs : s.size ≤ maxLen) (hx : a.eval x = .string s) (hv : a.eval v = .bool true)
    (h : SSet P k e w B n S) (hK : ∀ w', SSet P k e w' B (n + 1) (fun l => S l || decide (l = s.data.toList)) → w.grownBy w' (some B) → wpList P ops Q rest (a.put o.dst undef) w') : wpList P ops Q (o :: rest) a w := by
  refine wpList_plain hg fun K' hK' => ?_
  obtain ⟨w', hrun, r1, r2⟩ := h.put hk he ht hn hs
  unfold Oper.wp
  simp [execOp, hop, hm, hx, hv, hrun, Result.andThen]
  exact hK' _ _ (hK w' r1 r2)
end Go.Proofs.YtniejidekflmiaaGreatDoor
