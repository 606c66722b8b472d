/- append onto a row of the call's own: one element; a row that came in. -/
import Derived.Test.YtniejidekflmiaaGreatDoorBase
import Derived.Test.YtniejidekflmiaaGreatDoorHeldX
import Derived.Maps.AppendAt
import Derived.Deep.AppendLies
import Derived.OwnWalk
import Derived.WalkKit
import Derived.Tactics
namespace Go.Proofs.YtniejidekflmiaaGreatDoor
open Go.RowKit
section
variable {P : Program}
theorem add_none (b o j : Nat) : (⟨b, o, none⟩ : Addr).add j = ⟨b, o + j, none⟩ := by unfold Addr.add; split <;> simp_all
theorem run_append_nothing (w : World) (base : Nat) (t ty e : TypeId) (i : TypeInfo) (size : Nat) (ht : P.underlying t = some (.slice e)) (hi : P.info? e = some i)
    (v : Value) (n : Nat) (xs : List Value) (hown : w.ownsRow base e size v n xs) (c : Nat) : (Builtin.append_ #[t, t] ty #[v, .slice none 0 c]).run P w = .ok v w := by
  rcases hown.2 with ⟨rfl, rfl⟩ | ⟨g, cap, cur, rfl, _, _, hnc, _⟩
  · simp [Builtin.append_, run_underlying ht, sizeOf, typeInfo, hi, Builtin.lenOf, Builtin.firstCells]
  · simp [Builtin.append_, run_underlying ht, sizeOf, typeInfo, hi, Builtin.lenOf, Builtin.firstCells, hnc, storeCells]
/-- a row of the call's own, m elements of a slice that lies anywhere (nil too) behind it -/
theorem run_append_row (w : World) (base : Nat) (t ty e : TypeId) {z : Value} {size bytes : Nat} (ht : P.underlying t = some (.slice e)) (hinfo : (P.info? e).map (fun i => (i.zero, i.size, i.bytes)) = some (some z, size, bytes)) (hzs : z.cells.size = size) (hsz : 0 < size)
    (v : Value) (n : Nat) (xs : List Value) (hown : w.ownsRow base e size v n xs) (A : Option Addr) (m c : Nat) (news : List Value) (hl : news.length = m * size)
    (hnews : 0 < m → ∃ b o, A = some ⟨b, o, none⟩ ∧ ∀ j u, news[j]? = some u → w.cell? ⟨b, o + j, none⟩ = some u) (h1 : ∀ u ∈ news, u.oneCell' = true)
    (hbytes : (n + m) * bytes ≤ 140737488355328) (h63 : n + m ≤ maxLen) (hbase : base ≤ w.heap.size) :
    ∃ v' w', (Builtin.append_ #[t, t] ty #[v, .slice A m c]).run P w = .ok v' w' ∧ w'.ownsRow base e size v' (n + m) (xs ++ news) ∧ w.grownBy w' v.ownBlock ∧ (v'.ownBlock = v.ownBlock ∨ v'.ownBlock = some w.heap.size) ∧ (v' = .slice none 0 0 ↔ v = .slice none 0 0 ∧ m = 0) := by
  obtain ⟨i, hi, hz0, hz1, hz2⟩ := info_parts hinfo
  rcases Nat.eq_zero_or_pos m with h0 | h0
  · subst h0
    have hn : news = [] := List.eq_nil_of_length_eq_zero (by simpa using hl)
    subst hn
    rcases A with _ | ad
    · exact ⟨v, w, run_append_nothing w base t ty e i size ht hi v n xs hown c, by simpa using hown, World.grownBy.refl w _, .inl rfl, by simp⟩
    · obtain ⟨v', w', hr, h2, h3, h4, h5⟩ := run_append_own_at (P := P) w base t ty e i z size bytes ht hi hz0 hz1 hz2 hzs hsz v n xs hown ad 0 c [] (by simp) (by simp) (by simp) h63 hbytes hbase
      exact ⟨v', w', hr, h2, h3, h5, h4⟩
  · obtain ⟨b, o, rfl, hc⟩ := hnews h0
    obtain ⟨v', w', hr, h2, h3, h4, h5⟩ := run_append_own_at (P := P) w base t ty e i z size bytes ht hi hz0 hz1 hz2 hzs hsz v n xs hown ⟨b, o, none⟩ m c news hl (fun j u hu => by rw [add_none]; exact hc j u hu) h1 h63 hbytes hbase
    exact ⟨v', w', hr, h2, h3, h5, h4⟩
theorem wp_append_row {w : World} {o : Oper} {a : Act} {K : Act → World → Prop} {Q : Exit → Act → World → Prop} (s x : Operand) (t : TypeId)
    (ho : o.op = .call { callee := .builtin .append, args := #[s, x], argTypes := #[t, t] }) (base : Nat) (e : TypeId) {z : Value} {size bytes : Nat} (ht : P.underlying t = some (.slice e))
    (hinfo : (P.info? e).map (fun i => (i.zero, i.size, i.bytes)) = some (some z, size, bytes)) (hzs : z.cells.size = size) (hsz : 0 < size)
    (v : Value) (n : Nat) (xs : List Value) (hs : a.eval s = v) (hown : w.ownsRow base e size v n xs) (A : Option Addr) (m c : Nat) (news : List Value) (hx : a.eval x = .slice A m c) (hl : news.length = m * size)
    (hnews : 0 < m → ∃ b o, A = some ⟨b, o, none⟩ ∧ ∀ j u, news[j]? = some u → w.cell? ⟨b, o + j, none⟩ = some u) (h1 : ∀ u ∈ news, u.oneCell' = true)
    (hbytes : (n + m) * bytes ≤ 140737488355328) (h63 : n + m ≤ maxLen) (hbase : base ≤ w.heap.size)
    (h : ∀ v' w', w'.ownsRow base e size v' (n + m) (xs ++ news) → w.grownBy w' v.ownBlock → (v'.ownBlock = v.ownBlock ∨ v'.ownBlock = some w.heap.size) → (v' = .slice none 0 0 ↔ v = .slice none 0 0 ∧ m = 0) → K (a.put o.dst v') w') : o.wp P a w K Q := by
  obtain ⟨v', w', hrun, h2, h3, h4, h5⟩ := run_append_row (P := P) w base t o.type e ht hinfo hzs hsz v n xs hown A m c news hl hnews h1 hbytes h63 hbase
  unfold Oper.wp execOp
  simp only [ho, resolve, invoke, builtin, Sem.run_bind, Sem.run_pure, Result.andThen_ok, List.map_toArray, List.map_cons, List.map_nil, hs, hx, hrun]
  exact h v' w' h2 h3 h4 h5
theorem wpList_append_row {w : World} {ops : Array Oper} {rest : List Oper} {o : Oper} {a : Act} {Q : Exit → Act → World → Prop} (hgd : o.guard = none) (s x : Operand) (t : TypeId)
    (ho : o.op = .call { callee := .builtin .append, args := #[s, x], argTypes := #[t, t] }) (base : Nat) (e : TypeId) {z : Value} {size bytes : Nat} (ht : P.underlying t = some (.slice e))
    (hinfo : (P.info? e).map (fun i => (i.zero, i.size, i.bytes)) = some (some z, size, bytes)) (hzs : z.cells.size = size) (hsz : 0 < size)
    (v : Value) (n : Nat) (xs : List Value) (hs : a.eval s = v) (hown : w.ownsRow base e size v n xs) (A : Option Addr) (m c : Nat) (news : List Value) (hx : a.eval x = .slice A m c) (hl : news.length = m * size)
    (hnews : 0 < m → ∃ b o, A = some ⟨b, o, none⟩ ∧ ∀ j u, news[j]? = some u → w.cell? ⟨b, o + j, none⟩ = some u) (h1 : ∀ u ∈ news, u.oneCell' = true)
    (hbytes : (n + m) * bytes ≤ 140737488355328) (h63 : n + m ≤ maxLen) (hbase : base ≤ w.heap.size)
    (h : ∀ v' w', w'.ownsRow base e size v' (n + m) (xs ++ news) → w.grownBy w' v.ownBlock → (v'.ownBlock = v.ownBlock ∨ v'.ownBlock = some w.heap.size) → (v' = .slice none 0 0 ↔ v = .slice none 0 0 ∧ m = 0) → wpList P ops Q rest (a.put o.dst v') w') : wpList P ops Q (o :: rest) a w :=
  wpList_plain hgd fun _ hK => wp_append_row s x t ho base e ht hinfo hzs hsz v n xs hs hown A m c news hx hl hnews h1 hbytes h63 hbase fun v' w' h2 h3 h4 h5 => hK _ _ (h v' w' h2 h3 h4 h5)

/-- one element more -/
theorem wpList_push {w : World} {ops : Array Oper} {rest : List Oper} {o : Oper} {a : Act} {Q : Exit → Act → World → Prop} (hgd : o.guard = none) (s x : Operand) (t : TypeId)
    (ho : o.op = .call { callee := .builtin .append, args := #[s, x], argTypes := #[t, t] }) (base : Nat) (e : TypeId) {z : Value} {size bytes : Nat} (ht : P.underlying t = some (.slice e))
    (hinfo : (P.info? e).map (fun i => (i.zero, i.size, i.bytes)) = some (some z, size, bytes)) (hzs : z.cells.size = size) (hsz : 0 < size) (hb : 0 < bytes) {α : Type} (enc : α → List Value) (xs : List α) (v : Value)
    (hs : a.eval s = v) (hown : OwnL enc w base e size v xs) (y : α) (g : Nat) (cs : Array Value) (e' : TypeId) (hx : a.eval x = .slice (some ⟨g, 0, none⟩) 1 1) (hB : Blk w g cs e') (hcs : cs.toList = enc y) (hl : (enc y).length = size)
    (h1 : ∀ u ∈ enc y, u.oneCell' = true) (hlen : (xs.length + 1) * bytes ≤ 140737488355328) (hbase : base ≤ w.heap.size)
    (h : ∀ v' w', OwnL enc w' base e size v' (xs ++ [y]) → w.grownBy w' v.ownBlock → (v'.ownBlock = v.ownBlock ∨ v'.ownBlock = some w.heap.size) → v' ≠ .slice none 0 0 → wpList P ops Q rest (a.put o.dst v') w') : wpList P ops Q (o :: rest) a w := by
  refine wpList_append_row hgd s x t ho base e ht hinfo hzs hsz v xs.length _ hs hown _ 1 1 (enc y) hx (by omega) (fun _ => ⟨g, 0, rfl, fun j u hu => ?_⟩) h1 hlen ?_ hbase fun v' w' h2 h3 h4 h5 => ?_
  · rw [Nat.zero_add, hB.cell, ← Array.getElem?_toList, hcs]
    exact hu
  · have : (xs.length + 1) * 1 ≤ (xs.length + 1) * bytes := Nat.mul_le_mul_left _ hb
    unfold maxLen
    omega
  · refine h v' w' ?_ h3 h4 (fun e => by have := (h5.1 e).2; omega)
    unfold OwnL
    rw [List.length_append, List.length_singleton, List.flatMap_append, List.flatMap_singleton]
    exact h2
end
end Go.Proofs.YtniejidekflmiaaGreatDoor
/- append of one element onto a row of the call's own, as one operation. -/
namespace Go.Proofs.YtniejidekflmiaaGreatDoor
open Go.RowKit
section
variable {P : Program}
theorem wp_push {w : World} {o : Oper} {a : Act} {K : Act → World → Prop} {Q : Exit → Act → World → Prop} (s x : Operand) (t : TypeId)
    (ho : o.op = .call { callee := .builtin .append, args := #[s, x], argTypes := #[t, t] }) (base : Nat) (e : TypeId) {z : Value} {size bytes : Nat} (ht : P.underlying t = some (.slice e))
    (hinfo : (P.info? e).map (fun i => (i.zero, i.size, i.bytes)) = some (some z, size, bytes)) (hzs : z.cells.size = size) (hsz : 0 < size) (hb : 0 < bytes) {α : Type} (enc : α → List Value) (xs : List α) (v : Value)
    (hs : a.eval s = v) (hown : OwnL enc w base e size v xs) (y : α) (g : Nat) (cs : Array Value) (e' : TypeId) (hx : a.eval x = .slice (some ⟨g, 0, none⟩) 1 1) (hB : Blk w g cs e') (hcs : cs.toList = enc y) (hl : (enc y).length = size)
    (h1 : ∀ u ∈ enc y, u.oneCell' = true) (hlen : (xs.length + 1) * bytes ≤ 140737488355328) (hbase : base ≤ w.heap.size)
    (h : ∀ v' w', OwnL enc w' base e size v' (xs ++ [y]) → w.grownBy w' v.ownBlock → (v'.ownBlock = v.ownBlock ∨ v'.ownBlock = some w.heap.size) → v' ≠ .slice none 0 0 → K (a.put o.dst v') w') : o.wp P a w K Q := by
  refine wp_append_row s x t ho base e ht hinfo hzs hsz v xs.length _ hs hown _ 1 1 (enc y) hx (by omega) (fun _ => ⟨g, 0, rfl, fun j u hu => ?_⟩) h1 hlen ?_ hbase fun v' w' h2 h3 h4 h5 => ?_
  · rw [Nat.zero_add, hB.cell, ← Array.getElem?_toList, hcs]
    exact hu
  · have : (xs.length + 1) * 1 ≤ (xs.length + 1) * bytes := Nat.mul_le_mul_left _ hb
    unfold maxLen
    omega
  · refine h v' w' ?_ h3 h4 (fun e => by have := (h5.1 e).2; omega)
    unfold OwnL
    rw [List.length_append, List.length_singleton, List.flatMap_append, List.flatMap_singleton]
    exact h2
/-- two operations that come to what they come to, in either order -/
theorem wpX_pure2 {ops : Array Oper} {S : World → Prop} {R : Act → World → Prop} {i j : Nat} {oi oj : Oper} {f : Nat} {listed : Array Bool} {a : Act} {w : World} (hr : Region.ready .any ops listed = [i, j]) (hi : ops[i]? = some oi) (hj : ops[j]? = some oj) (hgi : oi.guard = none) (hgj : oj.guard = none)
    (u v : Value) (hu : ∀ w, (execOp a.eval oi).run P w = .ok (.value u) w) (hv : ∀ w, (execOp a.eval oj).run P w = .ok (.value v) w)
    (hu' : ∀ w, (execOp (a.put oj.dst v).eval oi).run P w = .ok (.value u) w) (hv' : ∀ w, (execOp (a.put oi.dst u).eval oj).run P w = .ok (.value v) w)
    (hc : (a.put oj.dst v).put oi.dst u = (a.put oi.dst u).put oj.dst v) (hl : (listed.setIfInBounds j true).setIfInBounds i true = (listed.setIfInBounds i true).setIfInBounds j true)
    (r1 : Region.ready .any ops (listed.setIfInBounds i true) = [j]) (r2 : Region.ready .any ops (listed.setIfInBounds j true) = [i]) (hS : ∀ w', Ext w w' → S w')
    (h : ∀ w', Ext w w' → wpX P ops S R f ((listed.setIfInBounds i true).setIfInBounds j true) ((a.put oi.dst u).put oj.dst v) w') : wpX P ops S R (f + 2) listed a w := by
  have run : ∀ {o : Oper} {a : Act} {w : World} {u : Value} {K : Act → World → Prop}, (execOp a.eval o).run P w = .ok (.value u) w → K (a.put o.dst u) w → o.wp P a w K qNone := by
    intro o a w u K h1 h2
    unfold Oper.wp
    rw [h1]
    exact h2
  refine wpX_two hr hi hj hgi hgj ?_ ?_
  · intro w' hx K hK
    refine run (hu w') (hK _ _ (hS _ hx) (wpX_one r1 hj hgj ?_))
    intro w2 hx2 K2 hK2
    exact run (hv' w2) (hK2 _ _ (hS _ (hx.trans hx2)) (h _ (hx.trans hx2)))
  · intro w' hx K hK
    refine run (hv w') (hK _ _ (hS _ hx) (wpX_one r2 hi hgi ?_))
    intro w2 hx2 K2 hK2
    refine run (hu' w2) (hK2 _ _ (hS _ (hx.trans hx2)) ?_)
    rw [hc, hl]
    exact h _ (hx.trans hx2)
end
end Go.Proofs.YtniejidekflmiaaGreatDoor
