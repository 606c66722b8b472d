/- A map from int to int64 as a function. -/
import Derived.Test.YtenamokjbbiecaaProg
import Derived.Test.YtenamokjbbiecaaMapR
import Derived.Test.YtenamokjbbiecaaHeldX
import Derived.Test.YtenamokjbbiecaaExt0
import Derived.Maps.RangeWalk
import Derived.Maps.OwnSet
import Derived.Maps.OwnOps
import Derived.Lib.Hide
namespace Go.Proofs.Ytenamokjbbiecaa
open Go Go.ChangeMaps Go.MapKept Go.WideShapes Go.Maps Go.RowKit

structure MapTy (P : Program) (t k e : TypeId) : Prop where
  z : ∀ w, (zeroValue e).run P w = .ok (.int .i64 0) w
  t : P.underlying t = some (.map k e)
  k : P.underlying k = some (.int .i64)
  e : P.underlying e = some (.int .i64)
def AgrF (D : DataW Unit) (f : Int → Option Int) : Prop :=
  (∀ x, Maps.has D (.int .i64 x) = (f x).isSome) ∧ ∀ x n, f x = some n → ∀ zd, D.atKey (.int .i64 x) zd = .lit (.int .i64 n)
def upd (f : Int → Option Int) (x : Int) (v : Option Int) : Int → Option Int := fun y => if y = x then v else f y
def MapF (P : Program) (k e : TypeId) (w : World) (b n : Nat) (f : Int → Option Int) : Prop := ∃ D : DataW Unit, w.ownsMap P k (plainElem P e) b n D ∧ AgrF D f
def RngF (P : Program) (k e : TypeId) (w : World) (b r n : Nat) (f : Int → Option Int) (left : Int → Bool) (cnt : Nat) : Prop :=
  ∃ (D : DataW Unit) (L : Lit → Bool), w.ranges P k (plainElem P e) b r n D L cnt ∧ AgrF D f ∧ ∀ x, L (.int .i64 x) = left x
theorem lit_ne {x y : Int} (h : y ≠ x) : (Lit.int .i64 y) ≠ .int .i64 x := fun e => h (by injection e)
theorem sameKey_int (x y : Int) : (Lit.int .i64 y).sameKey (.int .i64 x) = decide (y = x) := by
  by_cases h : y = x
  · subst h
    simp [Lit.sameKey]
  · rw [Maps.sameKey_ne (lit_ne h), decide_eq_false h]
section
variable {P : Program} {t k e : TypeId} {w : World} {b r n : Nat} {f : Int → Option Int} {left : Int → Bool} {cnt : Nat}
theorem AgrF.put {D : DataW Unit} (h : AgrF D f) (hD : IsMap D) {x : Int} (hk : WideAt.IsKeyLit (.int .i64 x)) (v : Int) : AgrF (D.put (.int .i64 x) (.lit (.int .i64 v))) (upd f x (some v)) := by
  refine ⟨fun y => ?_, fun y m hy zd => ?_⟩
  · unfold upd
    split
    · rename_i e; subst e; exact has_put_same hD hk _
    · rename_i e; rw [has_put_other (lit_ne e)]; exact h.1 y
  · unfold upd at hy
    split at hy
    · rename_i e; subst e
      cases hy
      exact atKey_put_same hD hk _ _
    · rename_i e; rw [atKey_put_other (lit_ne e)]; exact h.2 y m hy zd
theorem AgrF.del {D : DataW Unit} (h : AgrF D f) (x : Int) : AgrF (D.del (.int .i64 x)) (upd f x none) := by
  refine ⟨fun y => ?_, fun y m hy zd => ?_⟩
  · unfold upd
    split
    · rename_i e; subst e; exact has_del_same
    · rename_i e; rw [has_del_other (lit_ne e)]; exact h.1 y
  · unfold upd at hy
    split at hy
    · cases hy
    · rename_i e; rw [atKey_del_other (lit_ne e)]; exact h.2 y m hy zd
theorem MapF.made (P : Program) (k e : TypeId) (w : World) : MapF P k e (w.alloc (.map #[] 0)) w.heap.size 0 fun _ => none :=
  ⟨_, World.ownsMap_made w P k _, fun _ => rfl, fun _ _ h => by cases h⟩
theorem MapF.lt (h : MapF P k e w b n f) : b < w.heap.size := by obtain ⟨D, h1, _⟩ := h; exact h1.lt
theorem MapF.mono (h : MapF P k e w b n f) {n' : Nat} (hn : n ≤ n') : MapF P k e w b n' f := by obtain ⟨D, h1, h2⟩ := h; exact ⟨D, h1.mono hn, h2⟩
theorem MapF.grown {w' : World} {row : Option Nat} (h : MapF P k e w b n f) (hg : w.grownBy w' row) (hne : some b ≠ row) : MapF P k e w' b n f := by obtain ⟨D, h1, h2⟩ := h; exact ⟨D, h1.kept hg hne, h2⟩
theorem MapF.ext {w' : World} (h : MapF P k e w b n f) (hx : Ext w w') : MapF P k e w' b n f := by
  obtain ⟨D, h1, h2⟩ := h
  have hl := h1.lt
  obtain ⟨es, clock, hb, rest⟩ := h1
  exact ⟨D, ⟨es, clock, (hx.below.block b hl).trans hb, rest⟩, h2⟩
theorem MapF.setCell (h : MapF P k e w b n f) {a : Addr} (ha : b ≠ a.block) (u : Value) : MapF P k e (w.setCell a u) b n f := by obtain ⟨D, h1, h2⟩ := h; exact ⟨D, h1.setCell ha u, h2⟩
theorem RngF.ext {w' : World} (h : RngF P k e w b r n f left cnt) (hx : Ext w w') : RngF P k e w' b r n f left cnt := by
  obtain ⟨D, L, h1, h2⟩ := h
  have hl1 := h1.owns.lt
  have hl2 := h1.lt
  obtain ⟨es, clock, since, seen, c0, hb, F, hs, hD, hr, rest⟩ := h1
  exact ⟨D, L, ⟨es, clock, since, seen, c0, (hx.below.block b hl1).trans hb, F, hs, hD, (hx.below.block r hl2).trans hr, rest⟩, h2⟩
theorem RngF.grown {w' : World} {row : Option Nat} (h : RngF P k e w b r n f left cnt) (hg : w.grownBy w' row) (hb : some b ≠ row) (hr : some r ≠ row) : RngF P k e w' b r n f left cnt := by
  obtain ⟨D, L, h1, h2⟩ := h
  exact ⟨D, L, h1.kept hg hb hr, h2⟩
theorem RngF.map (h : RngF P k e w b r n f left cnt) : MapF P k e w b n f := by obtain ⟨D, L, h1, h2, _⟩ := h; exact ⟨D, h1.owns, h2⟩
theorem RngF.left_eq (h : RngF P k e w b r n f left cnt) : w.rangeLeft b r = cnt := by obtain ⟨D, L, h1, _⟩ := h; exact h1.left_eq
theorem RngF.lt (h : RngF P k e w b r n f left cnt) : r < w.heap.size := by obtain ⟨D, L, h1, _⟩ := h; exact h1.lt
theorem RngF.ne (h : RngF P k e w b r n f left cnt) : r ≠ b := by obtain ⟨D, L, h1, _⟩ := h; exact h1.ne
/-- what each key of the map is -/
theorem MapF.wf (h : MapF P k e w b n f) (T : MapTy P t k e) (x v : Int) (hx : f x = some v) : (Lit.int .i64 x).wf = true ∧ (Lit.int .i64 v).wf = true := by
  obtain ⟨D, ⟨es, clock, hb, F, hs, rfl⟩, h1, h2⟩ := h
  have hh := h1 x
  rw [hx] at hh
  obtain ⟨p, hp, hpk⟩ := List.any_eq_true.1 hh
  obtain ⟨m, hm, rfl⟩ := List.mem_map.1 (mem_sorted.1 hp)
  obtain ⟨y, hy⟩ := F.reads m hm
  have e1 := WideAt.sameKey_eq hpk
  have k1 := WideElems.rd_key hy
  obtain ⟨z, hz, hzd⟩ := WideElems.rd_val hy
  rw [WideElems.rg_of hy] at e1
  obtain ⟨x', _, e2, hw⟩ := Maps.keyOf_int_inv T.k k1
  rw [e1] at e2
  obtain ⟨c, _, ec, hc⟩ := plainElem_int_inv T.e hz
  have hat := (atKey_sorted (es.toList.map (WideElems.rg P k (plainElem P e))) (Maps.fit_rising (int_keyed T.k) F) (.int .i64 x) ((int_keyed T.k).key (v := m.key) (by rw [k1, e1]))).2 (WideElems.rg P k (plainElem P e) m) (List.mem_map.2 ⟨m, hm, rfl⟩) (by rw [WideElems.rg_of hy]; exact e1)
  have h3 := h2 x v hx (.lit (.int .i64 0))
  rw [hat, WideElems.rg_of hy, hzd, ec] at h3
  injection e2 with _ e2
  injection h3 with h3
  injection h3 with _ h3
  rw [e2, ← h3]
  exact ⟨hw, hc⟩
theorem own_ne_map {α : Type} {enc : α → List Value} {base s : Nat} {et : TypeId} {v : Value} {xs : List α} (h : OwnL enc w base et s v xs) (hm : MapF P k e w b n f) : v.ownBlock ≠ some b := by
  obtain ⟨D, ⟨es, clock, hb, _⟩, _⟩ := hm
  intro hk
  rcases h.2 with ⟨rfl, _⟩ | ⟨g', cap, cur, rfl, _, hh, _⟩
  · simp [Value.ownBlock] at hk
  · obtain rfl : g' = b := by simpa [Value.ownBlock] using hk
    rw [hh] at hb
    cases hb
theorem own_ne_iter {α : Type} {enc : α → List Value} {base s : Nat} {et : TypeId} {v : Value} {xs : List α} (h : OwnL enc w base et s v xs) (hm : RngF P k e w b r n f left cnt) : v.ownBlock ≠ some r := by
  obtain ⟨D, L, ⟨es, clock, since, seen, c0, hb, F, hs, hD, hr, _⟩, _⟩ := hm
  intro hk
  rcases h.2 with ⟨rfl, _⟩ | ⟨g', cap, cur, rfl, _, hh, _⟩
  · simp [Value.ownBlock] at hk
  · obtain rfl : g' = r := by simpa [Value.ownBlock] using hk
    rw [hh] at hr
    cases hr
variable {ops : Array Oper} {rest : List Oper} {o : Oper} {a : Act} {Q : Exit → Act → World → Prop}
theorem wpF_look (T : MapTy P t k e) (hg : o.guard = none) (m x : Operand) (hop : o.op = Op.lookup t m x true) (hm : a.eval m = .map (some b)) (h : MapF P k e w b n f) (i : Int) (hw : (Lit.int .i64 i).wf = true) (hx : a.eval x = .int .i64 i)
    (hK : wpList P ops Q rest (a.put o.dst (.tuple #[.int .i64 ((f i).getD 0), .bool (f i).isSome])) w) : wpList P ops Q (o :: rest) a w := by
  obtain ⟨D, h1, h2, h3⟩ := h
  refine wpList_lookup_own_ok_int w hg m x t hop k e .i64 (int_keyed T.k) T.t T.e (T.z w) b n D hm h1 _ _ hx (keyOf_int_mk T.k hw) ?_
  intro c hat hwc
  rw [h2]
  cases hf : f i with
  | none =>
    rw [hf] at hK
    rw [atKey_of_not_has (by rw [h2, hf]; rfl)] at hat
    injection hat with hat
    injection hat with _ hat
    subst hat
    exact hK
  | some v =>
    rw [hf] at hK
    rw [h3 i v hf] at hat
    injection hat with hat
    injection hat with _ hat
    subst hat
    exact hK
theorem wpF_look1 (T : MapTy P t k e) (hg : o.guard = none) (m x : Operand) (hop : o.op = Op.lookup t m x false) (hm : a.eval m = .map (some b)) (h : MapF P k e w b n f) (i : Int) (hw : (Lit.int .i64 i).wf = true) (hx : a.eval x = .int .i64 i)
    (hK : wpList P ops Q rest (a.put o.dst (.int .i64 ((f i).getD 0))) w) : wpList P ops Q (o :: rest) a w := by
  obtain ⟨D, h1, h2, h3⟩ := h
  refine wpList_lookup_own_int w hg m x t hop k e .i64 (int_keyed T.k) T.t T.e (T.z w) b n D hm h1 _ _ hx (keyOf_int_mk T.k hw) ?_
  intro c hat hwc
  cases hf : f i with
  | none =>
    rw [hf] at hK
    rw [atKey_of_not_has (by rw [h2, hf]; rfl)] at hat
    injection hat with hat
    injection hat with _ hat
    subst hat
    exact hK
  | some v =>
    rw [hf] at hK
    rw [h3 i v hf] at hat
    injection hat with hat
    injection hat with _ hat
    subst hat
    exact hK
theorem wpF_store (T : MapTy P t k e) (hg : o.guard = none) (m x v : Operand) (hop : o.op = Op.mapUpdate t m x v) (hm : a.eval m = .map (some b)) (h : MapF P k e w b n f) (hn : n < maxLen) (i u : Int) (hw : (Lit.int .i64 i).wf = true) (hx : a.eval x = .int .i64 i) (hu : (Lit.int .i64 u).wf = true) (hv : a.eval v = .int .i64 u)
    (hK : ∀ w', MapF P k e w' b (n + 1) (upd f i (some u)) → w.grownBy w' (some b) → wpList P ops Q rest (a.put o.dst undef) w') : wpList P ops Q (o :: rest) a w := by
  obtain ⟨D, h1, h2⟩ := h
  have hk := keyOf_int_mk T.k hw
  refine wpList_mapUpdate_own w hg m x v t hop k e (int_keyed T.k) T.t _ b n D hm h1 hn _ _ _ hx hv hk _ [] (plainElem_int T.e hu) ?_
  intro w' h3 h4
  exact hK w' ⟨_, h3, h2.put h1.isMap ((int_keyed T.k).key hk) u⟩ h4
theorem wpF_del (T : MapTy P t k e) (hg : o.guard = none) (m x : Operand) (hop : o.op = Op.call { callee := Callee.builtin Builtin.delete, args := #[m, x], argTypes := #[t, k] }) (hm : a.eval m = .map (some b)) (h : MapF P k e w b n f) (i : Int) (hw : (Lit.int .i64 i).wf = true) (hx : a.eval x = .int .i64 i)
    (hK : ∀ w', MapF P k e w' b n (upd f i none) → w.grownBy w' (some b) → wpList P ops Q rest (a.put o.dst (.tuple #[])) w') : wpList P ops Q (o :: rest) a w := by
  obtain ⟨D, h1, h2⟩ := h
  refine wpList_delete_own w hg m x t k hop e (int_keyed T.k) T.t _ b n D hm h1 _ _ hx (keyOf_int_mk T.k hw) ?_
  intro w' h3 h4
  exact hK w' ⟨_, h3, h2.del i⟩ h4.grown
theorem wpF_range (T : MapTy P t k e) (hg : o.guard = none) (m : Operand) (hop : o.op = Op.range t m) (hm : a.eval m = .map (some b)) (h : MapF P k e w b n f)
    (hK : ∀ w' cnt, cnt ≤ n → RngF P k e w' b w.heap.size n f (fun x => (f x).isSome) cnt → w.grownBy w' none → w'.heap.size = w.heap.size + 1 → wpList P ops Q rest (a.put o.dst (.pointer (some ⟨w.heap.size, 0, none⟩))) w') : wpList P ops Q (o :: rest) a w := by
  obtain ⟨D, h1, h2⟩ := h
  refine wpList_range_own w hg m t hop k e (int_keyed T.k) T.t _ b n D hm h1 ?_
  intro w' h3 h4 h5
  exact hK w' _ h1.size_le ⟨D, _, h3, h2, h2.1⟩ h4 h5
theorem wpF_next (T : MapTy P t k e) (hg : o.guard = none) (it : Operand) (hop : o.op = Op.next it false) (hit : a.eval it = .pointer (some ⟨r, 0, none⟩)) (h : RngF P k e w b r n f left cnt)
    (hDone : (∀ x, left x = false) → wpList P ops Q rest (a.put o.dst (.tuple #[.bool false])) w)
    (hMore : ∀ (x c : Int) (w' : World) (cnt' : Nat), (Lit.int .i64 x).wf = true → (Lit.int .i64 c).wf = true → left x = true → f x = some c → RngF P k e w' b r n f (fun y => left y && !decide (y = x)) cnt' → cnt' < cnt → w.grownBy w' (some r) → w'.heap.size = w.heap.size →
      (Instr.entry (.pointer (some ⟨r, 0, none⟩))).run P w' = .ok (.tuple #[.int .i64 x, .int .i64 c]) w' → wpList P ops Q rest (a.put o.dst (.tuple #[.bool true, .int .i64 x, .int .i64 c])) w') : wpList P ops Q (o :: rest) a w := by
  obtain ⟨D, L, h1, h2, h3⟩ := h
  refine wpList_next_ranges_ii w hg it hop k e .i64 .i64 (int_keyed T.k) T.k T.e b r n D L cnt hit h1 ?_ ?_
  · intro _ hl
    exact hDone fun x => by rw [← h3]; exact hl _
  · intro x c w' cnt' hwx hwc hlx hat hrg hlt hgr hsz hen
    have hs : (f x).isSome = true := by
      rw [← h2.1 x]
      exact Maps.has_true_of_atKey hat
    obtain ⟨v, hv⟩ := Option.isSome_iff_exists.1 hs
    have hv2 := hat (.lit (.int .i64 0))
    rw [h2.2 x v hv] at hv2
    injection hv2 with hv2
    injection hv2 with _ hv2
    subst hv2
    exact hMore x v w' cnt' hwx hwc (by rw [← h3]; exact hlx) hv ⟨D, _, hrg, h2, fun y => by show (L _ && !_) = _; rw [h3, sameKey_int]⟩ hlt hgr hsz hen
theorem wpF_rstore (T : MapTy P t k e) (hg : o.guard = none) (m x v : Operand) (hop : o.op = Op.mapUpdate t m x v) (hm : a.eval m = .map (some b)) (h : RngF P k e w b r n f left cnt) (i u : Int) (hf : (f i).isSome = true) (hw : (Lit.int .i64 i).wf = true) (hx : a.eval x = .int .i64 i) (hu : (Lit.int .i64 u).wf = true) (hv : a.eval v = .int .i64 u)
    (hK : ∀ w', RngF P k e w' b r n (upd f i (some u)) left cnt → w.grownBy w' (some b) → w'.heap.size = w.heap.size → wpList P ops Q rest (a.put o.dst undef) w') : wpList P ops Q (o :: rest) a w := by
  obtain ⟨D, L, h1, h2, h3⟩ := h
  have hk := keyOf_int_mk T.k hw
  refine wpList_store_ranges hg m x v t hop k e (int_keyed T.k) T.t _ b r n D L cnt hm h1 _ _ _ hx hv hk _ [] (plainElem_int T.e hu) (by rw [h2.1]; exact hf) ?_
  intro w' h4 h5 h6
  exact hK w' ⟨_, L, h4, h2.put h1.owns.isMap ((int_keyed T.k).key hk) u, h3⟩ h5 h6
theorem wpF_rdel (T : MapTy P t k e) (hg : o.guard = none) (m x : Operand) (hop : o.op = Op.call { callee := Callee.builtin Builtin.delete, args := #[m, x], argTypes := #[t, k] }) (hm : a.eval m = .map (some b)) (h : RngF P k e w b r n f left cnt) (i : Int) (hl : left i = false) (hw : (Lit.int .i64 i).wf = true) (hx : a.eval x = .int .i64 i)
    (hK : ∀ w' cnt', RngF P k e w' b r n (upd f i none) left cnt' → cnt' ≤ cnt → w.grownBy w' (some b) → wpList P ops Q rest (a.put o.dst (.tuple #[])) w') : wpList P ops Q (o :: rest) a w := by
  obtain ⟨D, L, h1, h2, h3⟩ := h
  refine wpList_delete_ranges w hg m x t k hop e (int_keyed T.k) T.t _ b r n D L cnt hm h1 _ _ hx (keyOf_int_mk T.k hw) ?_
  intro w' cnt' h4 h5 h6
  refine hK w' cnt' ⟨_, _, h4, h2.del i, fun y => ?_⟩ h5 h6.grown
  show (L _ && !_) = _
  rw [h3, sameKey_int]
  by_cases h : y = i
  · subst h; rw [hl]; rfl
  · simp [h]
end
end Go.Proofs.Ytenamokjbbiecaa
