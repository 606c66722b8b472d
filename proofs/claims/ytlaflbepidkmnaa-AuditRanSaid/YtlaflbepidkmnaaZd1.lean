/- Lemmas: Small words for all walks: what a slice reads as, and how that stays; A region that draws its order, walked in the order of the text, where every operation keeps a condition on the world and what it comes to hangs on that condition alone. -/
import Derived.Test.YtlaflbepidkmnaaProg
import Derived.Laws.StructEq
import Derived.ScopeJumps
import Derived.WalkMore
import Derived.WalkKit
import Derived.WalkSpells
import Derived.WalkLawsBesides
import Derived.Lib.Hide
import Derived.Lib.SmallJoins
import Derived.Lib.ConvBytes
import Derived.Orders
import Derived.Below
import Derived.Tactics
import Derived.Laws.AppendOwn
/- Base -/
namespace Go.Proofs.Ytlaflbepidkmnaa
open Go.RowKit
set_option linter.unusedSimpArgs false

theorem ri {k : IntKind} {a b : Int} (h : a = b) : Ending.returned (.int k a) = .returned (.int k b) := by rw [h]
theorem rb {a b : Bool} (h : a = b) : Ending.returned (.bool a) = .returned (.bool b) := by rw [h]

/-- The text whose bytes these are. -/
def str (l : List UInt8) : ByteArray := ⟨l.toArray⟩
theorem str_size (l : List UInt8) : (str l).size = l.length := rfl
theorem str_list (l : List UInt8) : (str l).data.toList = l := rfl
theorem str_of (s : ByteArray) : str s.data.toList = s := rfl
theorem list_size (s : ByteArray) : s.data.toList.length = s.size := by rw [Array.length_toList]; rfl
theorem str_inj {a b : List UInt8} : str a = str b ↔ a = b := ⟨fun h => by have := congrArg (fun s : ByteArray => s.data.toList) h; exact this, fun h => by rw [h]⟩
theorem ba_ext {a b : ByteArray} (h : a.data.toList = b.data.toList) : a = b := by rw [← str_of a, ← str_of b, h]
theorem extract_list (s : ByteArray) (a b : Nat) : (s.extract a b).data.toList = (s.data.toList.take b).drop a := by
  rw [ByteArray.data_extract, Array.toList_extract, List.extract_eq_take_drop, List.drop_take]
theorem extract_to_end (s : ByteArray) (a : Nat) : (s.extract a s.size).data.toList = s.data.toList.drop a := by
  rw [extract_list, List.take_of_length_le (by rw [list_size]; exact Nat.le_refl _)]
theorem extract_from (s : ByteArray) (b : Nat) : (s.extract 0 b).data.toList = s.data.toList.take b := by
  rw [extract_list]; rfl

theorem getD_at {α : Type} {l : List α} {k : Nat} (h : k < l.length) (d : α) : l.getD k d = l[k] := by
  simp only [List.getD, List.getElem?_eq_getElem h, Option.getD_some]
/-- What was there stays, where F says. -/
def Keeps (F : Nat → Prop) (w w' : World) : Prop := ∀ k, F k → k < w.heap.size → w'.heap[k]? = w.heap[k]?
theorem Keeps.below {w w' : World} (h : Below w.heap.size w w') (F : Nat → Prop) : Keeps F w w' := fun k _ hk => h.block k hk
theorem Keeps.cell {F : Nat → Prop} {w w' : World} (h : Keeps F w w') {b o : Nat} {v : Value} (hF : F b) (hc : w.cell? ⟨b, o, none⟩ = some v) : w'.cell? ⟨b, o, none⟩ = some v := by
  have hb : b < w.heap.size := World.block_lt_of_cell? w ⟨b, o, none⟩ hc
  rw [World.cell?_of_block (w := w) (h b hF hb)]
  exact hc

/-- The slice v reads as xs in w; each element by R; all its blocks lie in F. -/
def SlR {α : Type} (R : World → Nat → Nat → α → Prop) (sz : Nat) (F : Nat → Prop) (w : World) (v : Value) (xs : List α) : Prop :=
  ∃ A c, v = .slice A xs.length c ∧ xs.length ≤ c ∧ c ≤ maxLen ∧ (xs ≠ [] → ∃ b o, A = some ⟨b, o, none⟩ ∧ F b ∧ ∀ i (h : i < xs.length), R w b (o + i * sz) xs[i])

theorem SlR.keep {α : Type} {R R' : World → Nat → Nat → α → Prop} {sz : Nat} {F F' : Nat → Prop} {w w' : World} {v : Value} {xs : List α}
    (h : SlR R sz F w v xs) (hF : ∀ b, F b → F' b) (hR : ∀ b o x, x ∈ xs → F b → R w b o x → R' w' b o x) : SlR R' sz F' w' v xs := by
  obtain ⟨A, c, rfl, h1, h2, h3⟩ := h
  refine ⟨A, c, rfl, h1, h2, fun hne => ?_⟩
  obtain ⟨b, o, e, hb, hx⟩ := h3 hne
  exact ⟨b, o, e, hF b hb, fun i hi => hR _ _ _ (List.getElem_mem hi) hb (hx i hi)⟩

theorem SlR.to {α : Type} {R : World → Nat → Nat → α → Prop} {sz : Nat} {F : Nat → Prop} {w w' : World} {v : Value} {xs : List α} (h : SlR R sz F w v xs) (hR : ∀ b o x, R w b o x → R w' b o x) : SlR R sz F w' v xs :=
  h.keep (fun _ h => h) (fun b o x _ _ k => hR b o x k)
theorem SlR.nil {α : Type} (R : World → Nat → Nat → α → Prop) (sz : Nat) (F : Nat → Prop) (w : World) : SlR R sz F w (.slice none 0 0) [] :=
  ⟨none, 0, rfl, Nat.le_refl _, Nat.zero_le _, fun h => absurd rfl h⟩

/-- one cell a number -/
def IntR (k : IntKind) : World → Nat → Nat → Int → Prop := fun w b o x => w.cell? ⟨b, o, none⟩ = some (.int k x)
def StrR : World → Nat → Nat → ByteArray → Prop := fun w b o x => w.cell? ⟨b, o, none⟩ = some (.string x)
def BoolR : World → Nat → Nat → Bool → Prop := fun w b o x => w.cell? ⟨b, o, none⟩ = some (.bool x)
theorem IntR.keep {k : IntKind} {F : Nat → Prop} {w w' : World} (h : Keeps F w w') {b o : Nat} {x : Int} (hb : F b) (hx : IntR k w b o x) : IntR k w' b o x := h.cell hb hx
theorem StrR.keep {F : Nat → Prop} {w w' : World} (h : Keeps F w w') {b o : Nat} {x : ByteArray} (hb : F b) (hx : StrR w b o x) : StrR w' b o x := h.cell hb hx
theorem BoolR.keep {F : Nat → Prop} {w w' : World} (h : Keeps F w w') {b o : Nat} {x : Bool} (hb : F b) (hx : BoolR w b o x) : BoolR w' b o x := h.cell hb hx

/-- everything -/
def Any : Nat → Prop := fun _ => True

/-- A row of the call's own, each element written by enc, reads as xs. -/
theorem SlR.of_own {α : Type} {R : World → Nat → Nat → α → Prop} {sz : Nat} {F : Nat → Prop} {w : World} {v : Value} {xs : List α} {base : Nat} {e : TypeId} {enc : α → List Value}
    (hsz : ∀ x, (enc x).length = sz) (h : w.ownsRow base e sz v xs.length (xs.flatMap enc)) (hF : ∀ b, base ≤ b → b < w.heap.size → F b)
    (hR : ∀ b o x, x ∈ xs → (∀ j u, (enc x)[j]? = some u → w.cell? ⟨b, o + j, none⟩ = some u) → R w b o x) : SlR R sz F w v xs := by
  rcases h.2 with ⟨rfl, hn⟩ | ⟨g, cap, cur, rfl, hb, hh, hc1, hc2, _, _⟩
  · obtain rfl : xs = [] := List.length_eq_zero_iff.1 hn
    exact SlR.nil _ _ _ _
  · refine ⟨_, cap, rfl, hc1, hc2, fun hne => ⟨g, 0, rfl, hF g hb (Array.getElem?_eq_some_iff.1 hh).1, fun i hi => hR _ _ _ (List.getElem_mem hi) fun j u hu => ?_⟩⟩
    have hj : j < sz := by
      have := (List.getElem?_eq_some_iff.1 hu).1
      rw [hsz] at this; exact this
    have hget : (xs.flatMap enc)[i * sz + j]? = some u := by
      have : ∀ (ys : List α) (i : Nat) (hi : i < ys.length), (ys.flatMap enc)[i * sz + j]? = (enc ys[i])[j]? := by
        intro ys
        induction ys with
        | nil => intro i hi; simp at hi
        | cons y ys ih =>
          intro i hi
          cases i with
          | zero =>
            rw [List.flatMap_cons, List.getElem?_append_left (by rw [hsz]; omega)]
            simp
          | succ i =>
            rw [List.flatMap_cons, List.getElem?_append_right (by rw [hsz, Nat.add_mul]; omega), hsz, show (i + 1) * sz + j - sz = i * sz + j by rw [Nat.add_mul]; omega]
            simp only [List.getElem_cons_succ]
            exact ih i (by simpa using hi)
      rw [this xs i hi]; exact hu
    have := h.cells (g := g) rfl (i * sz + j) u hget
    have e : ((⟨g, 0, none⟩ : Addr).add (i * sz + j)) = ⟨g, 0 + i * sz + j, none⟩ := by
      unfold Addr.add
      split
      · rename_i h0
        simp
      · simp
    rw [e] at this
    exact this

theorem own_nil (w : World) (base : Nat) (e : TypeId) (size : Nat) : w.ownsRow base e size (.slice none 0 0) 0 [] := ⟨by simp, .inl ⟨rfl, rfl⟩⟩
theorem own_below {w w1 : World} {base : Nat} {e : TypeId} {size n : Nat} {v : Value} {xs : List Value} (h : w.ownsRow base e size v n xs) (hb : Below w.heap.size w w1) : w1.ownsRow base e size v n xs :=
  h.kept ⟨hb.os, hb.tape, hb.output, hb.size, fun i hi _ => hb.block i hi⟩ (by cases v.ownBlock <;> simp) (row := none)
theorem own_lt {w : World} {base : Nat} {e : TypeId} {size n : Nat} {v : Value} {xs : List Value} (h : w.ownsRow base e size v n xs) (k : Nat) (hk : v.ownBlock = some k) : base ≤ k ∧ k < w.heap.size := h.lt k hk

/-- Block g is the row cs of type t, not frozen. -/
def Blk (w : World) (g : Nat) (cs : Array Value) (t : TypeId) : Prop := w.heap[g]? = some (.cells cs t (0, 0))
theorem Blk.cell {w : World} {g : Nat} {t : TypeId} {cs : Array Value} (h : Blk w g cs t) (i : Nat) : w.cell? ⟨g, i, none⟩ = cs[i]? := by
  unfold Blk at h; simp [World.cell?, h]
theorem Blk.free {w : World} {g : Nat} {t : TypeId} {cs : Array Value} (h : Blk w g cs t) (i : Nat) : w.frozen? ⟨g, i, none⟩ = false := by
  unfold Blk at h; simp [World.frozen?, h]
theorem Blk.lt {w : World} {g : Nat} {t : TypeId} {cs : Array Value} (h : Blk w g cs t) : g < w.heap.size := (Array.getElem?_eq_some_iff.1 h).1
theorem Blk.set {w : World} {g : Nat} {t : TypeId} {cs : Array Value} (h : Blk w g cs t) (i : Nat) (u : Value) : Blk (w.setCell ⟨g, i, none⟩ u) g (cs.setIfInBounds i u) t := by
  unfold Blk at h ⊢; simp [World.setCell, Array.getElem?_modify, h]
theorem Blk.far {w : World} {g : Nat} {t : TypeId} {cs : Array Value} (h : Blk w g cs t) {p : Addr} (hp : g ≠ p.block) (u : Value) : Blk (w.setCell p u) g cs t :=
  (Below.heap_setCell w p u g hp).trans h
theorem Blk.alloc {w : World} {g : Nat} {t : TypeId} {cs : Array Value} (h : Blk w g cs t) (o : Obj) : Blk (w.alloc o) g cs t := (Below.heap_alloc w o g h.lt).trans h
theorem Blk.drew {w : World} {g : Nat} {t : TypeId} {cs : Array Value} (h : Blk w g cs t) : Blk w.drew g cs t := h
theorem Blk.drewN {w : World} {g : Nat} {t : TypeId} {cs : Array Value} (h : Blk w g cs t) (n : Nat) : Blk (w.drewN n) g cs t := h
theorem Blk.below {w w1 : World} {B g : Nat} {t : TypeId} {cs : Array Value} (h : Blk w g cs t) (hb : Below B w w1) (hg : g < B) : Blk w1 g cs t := (hb.block g hg).trans h
theorem Blk.new (w : World) (cs : Array Value) (t : TypeId) : Blk (w.alloc (.cells cs t)) w.heap.size cs t := by
  show (w.heap.push _)[w.heap.size]? = _
  simp
theorem Blk.new_at (w : World) (cs : Array Value) (t : TypeId) (g : Nat) (hg : g = w.heap.size) : Blk (w.alloc (.cells cs t)) g cs t := by rw [hg]; exact Blk.new w cs t
theorem Blk.grown {w w1 : World} {g : Nat} {t : TypeId} {cs : Array Value} {row : Option Nat} (h : Blk w g cs t) (hg : w.grownBy w1 row) (hne : row ≠ some g) : Blk w1 g cs t :=
  (hg.block g h.lt (fun e => hne e.symm)).trans h
theorem Blk.bytes {w : World} {g : Nat} {t : TypeId} {cs : Array Value} (h : Blk w g cs t) (e : TypeId) (s : ByteArray) : Blk (Lib.bytesWorld w e s) g cs t := (Lib.bytesWorld_at_old w e s g h.lt).trans h
theorem cell_far {w : World} {p : Addr} {g : Nat} (h : g ≠ p.block) (u : Value) (j : Nat) : (w.setCell p u).cell? ⟨g, j, none⟩ = w.cell? ⟨g, j, none⟩ :=
  World.cell?_of_block (w := w) (a := ⟨g, j, none⟩) (Below.heap_setCell w p u g h)
theorem setCell_twice (w : World) (a : Addr) (u v : Value) : (w.setCell a u).setCell a v = w.setCell a v := by
  simp only [World.setCell]
  congr 1
  apply Array.ext_getElem?
  intro i
  simp only [Array.getElem?_modify]
  split
  · rw [Option.map_map]
    congr 1
    funext o
    cases o with
    | cells c e fr => simp only [Function.comp]; split <;> simp [Array.setIfInBounds_setIfInBounds]
    | _ => rfl
  · rfl
theorem size_setCell (w : World) (a : Addr) (v : Value) : (w.setCell a v).heap.size = w.heap.size := by simp [World.setCell]
theorem size_alloc (w : World) (o : Obj) : (w.alloc o).heap.size = w.heap.size + 1 := by simp
theorem size_drew (w : World) : w.drew.heap.size = w.heap.size := rfl

/-- The slice v is a row of the call's own (from block base on) that reads as xs, each element written by enc. -/
def OwnL {α : Type} (enc : α → List Value) (w : World) (base : Nat) (e : TypeId) (size : Nat) (v : Value) (xs : List α) : Prop :=
  w.ownsRow base e size v xs.length (xs.flatMap enc)
section
variable {α : Type} {enc : α → List Value} {w w1 : World} {base : Nat} {e : TypeId} {size : Nat} {v : Value} {xs : List α}
theorem OwnL.nil : OwnL enc w base e size (.slice none 0 0) [] := own_nil _ _ _ _
theorem OwnL.alloc (h : OwnL enc w base e size v xs) (o : Obj) : OwnL enc (w.alloc o) base e size v xs := World.ownsRow.alloc h o
theorem OwnL.drew (h : OwnL enc w base e size v xs) : OwnL enc w.drew base e size v xs := h
theorem OwnL.drewN (h : OwnL enc w base e size v xs) (n : Nat) : OwnL enc (w.drewN n) base e size v xs := h
theorem OwnL.below (h : OwnL enc w base e size v xs) (hb : Below w.heap.size w w1) : OwnL enc w1 base e size v xs := own_below h hb
theorem OwnL.lt (h : OwnL enc w base e size v xs) : ∀ k, v.ownBlock = some k → base ≤ k ∧ k < w.heap.size := World.ownsRow.lt h
theorem OwnL.grown (h : OwnL enc w base e size v xs) {row : Option Nat} (hg : w.grownBy w1 row) (hne : ∀ k, v.ownBlock = some k → row ≠ some k) : OwnL enc w1 base e size v xs :=
  World.ownsRow.kept h hg (by
    cases hv : v.ownBlock with
    | none => exact .inl rfl
    | some k => exact .inr (fun e => hne k hv e.symm))
theorem OwnL.set (h : OwnL enc w base e size v xs) {a : Addr} (hne : v.ownBlock ≠ some a.block) (u : Value) : OwnL enc (w.setCell a u) base e size v xs := by
  obtain ⟨h1, h2⟩ := h
  refine ⟨h1, ?_⟩
  rcases h2 with h2 | ⟨g, cap, cur, hv, hg, hh, r⟩
  · exact .inl h2
  · refine .inr ⟨g, cap, cur, hv, hg, ?_, r⟩
    rw [Below.heap_setCell _ _ _ _ (fun e => hne (by rw [hv, ← e]; rfl))]
    exact hh
theorem OwnL.lower (h : OwnL enc w base e size v xs) {b : Nat} (hb : b ≤ base) : OwnL enc w b e size v xs := by
  obtain ⟨h1, h2⟩ := h
  refine ⟨h1, ?_⟩
  rcases h2 with h2 | ⟨g, cap, cur, hv, hg, r⟩
  · exact .inl h2
  · exact .inr ⟨g, cap, cur, hv, by omega, r⟩
theorem OwnL.form (h : OwnL enc w base e size v xs) : ∃ A c, v = .slice A xs.length c ∧ xs.length ≤ c ∧ c ≤ maxLen := by
  rcases h.2 with ⟨rfl, hn⟩ | ⟨g, cap, cur, rfl, _, _, h1, h2, _⟩
  · exact ⟨none, 0, by rw [hn], by omega, by unfold maxLen; omega⟩
  · exact ⟨_, cap, rfl, h1, h2⟩
theorem OwnL.read {R : World → Nat → Nat → α → Prop} {F : Nat → Prop} (h : OwnL enc w base e size v xs) (hsz : ∀ x, (enc x).length = size) (hF : ∀ b, base ≤ b → b < w.heap.size → F b)
    (hR : ∀ b o x, x ∈ xs → (∀ j u, (enc x)[j]? = some u → w.cell? ⟨b, o + j, none⟩ = some u) → R w b o x) : SlR R size F w v xs := SlR.of_own hsz h hF hR
end
theorem wpList_app1 {P : Program} {w : World} {ops : Array Oper} {rest : List Oper} {o : Oper} {a : Act} {Q : Exit → Act → World → Prop} (hgd : o.guard = none) (s x : Operand) (t : TypeId)
    (ho : o.op = .call { callee := .builtin .append, args := #[s, x], argTypes := #[t, t] }) (base : Nat) (e : TypeId) (z : Value) (size bytes : Nat) (ht : P.underlying t = some (.slice e))
    (hinfo : (P.info? e).map (fun i => (i.zero, i.size, i.bytes)) = some (some z, size, bytes)) (hzs : z.cells.size = size) (hsz : 0 < size) {α : Type} (enc : α → List Value) (xs : List α) (v : Value)
    (hs : a.eval s = v) (hown : OwnL enc w base e size v xs) (y : α) (g : Nat) (hx : a.eval x = .slice (some ⟨g, 0, none⟩) 1 1) (hl : (enc y).length = size)
    (hnews : ∀ j u, (enc y)[j]? = some u → w.cell? ⟨g, j, none⟩ = some u) (h1 : ∀ u ∈ enc y, u.oneCell' = true) (hlen : (xs.length + 1) * bytes ≤ 140737488355328) (hb : 0 < bytes) (hbase : base ≤ w.heap.size)
    (h : ∀ v' w', OwnL enc w' base e size v' (xs ++ [y]) → w.grownBy w' v.ownBlock → v' ≠ .slice none 0 0 → wpList P ops Q rest (a.put o.dst v') w') : wpList P ops Q (o :: rest) a w := by
  obtain ⟨i0, hi, hz0, hz1, hz2⟩ := info_parts hinfo
  refine wpList_append_own w hgd s x t ho base e i0 z size bytes ht hi hz0 hz1 hz2 hzs hsz v xs.length _ hs hown ⟨g, 0, none⟩ 1 1 (enc y) hx (by omega) ?_ h1 ?_ hlen hbase ?_
  · intro j u hu
    have e : ((⟨g, 0, none⟩ : Addr).add j) = ⟨g, j, none⟩ := by
      unfold Addr.add
      split
      · simp_all
      · simp
    rw [e]
    exact hnews j u hu
  · have : (xs.length + 1) * 1 ≤ (xs.length + 1) * bytes := Nat.mul_le_mul_left _ hb
    unfold maxLen
    omega
  · intro v' w' h2 h3 h4
    refine h v' w' ?_ h3 (fun hn => by have := h4.1 hn; omega)
    unfold OwnL
    rw [List.length_append, List.length_singleton, List.flatMap_append, List.flatMap_singleton]
    exact h2

/-- '==' of structs, a field at a time -/
theorem eqs_nil {P : Program} {d : Nat} {xs ys : Array Value} {w : World} : (Op.eqFields d xs ys []).run P w = .ok true w := by simp [Op.eqFields]
theorem eqs_cons {P : Program} {d : Nat} {xs ys : Array Value} {f : Field} {fs : List Field} {a b : Value} {r s : Bool} {w : World} (hn : f.name ≠ "_") (ha : (part f.type xs f.offset).run P w = .ok a w)
    (hb : (part f.type ys f.offset).run P w = .ok b w) (he : (Op.equalIn d f.type a b).run P w = .ok r w) (hr : (Op.eqFields d xs ys fs).run P w = .ok s w) : (Op.eqFields d xs ys (f :: fs)).run P w = .ok (r && s) w := by
  rw [Op.eqFields]
  simp only [if_pos hn, Sem.run_bind, ha, hb, he, Result.andThen_ok]
  cases r
  · simp
  · simpa using hr
theorem eqs_of {P : Program} {d : Nat} {xs ys : Array Value} {t : TypeId} {fs : Array Field} {r : Bool} {w : World} (hu : P.underlying t = some (.struct fs)) (hp : P.stoodInHeld t = false)
    (h : (Op.eqFields d xs ys fs.toList).run P w = .ok r w) : (Op.equalIn (d + 1) t (.agg xs) (.agg ys)).run P w = .ok r w := by
  have hf : P.fieldsOf t = fs := by simp [Program.fieldsOf, hu]
  rw [run_equalIn_struct (P := P) w d t xs ys (by rw [hf]; exact hu) hp, hf]
  exact h

theorem below_drewN {B : Nat} {w W : World} (h : Below B w W) (n : Nat) : Below B w (W.drewN n) := ⟨h.os, h.tape, h.output, h.size, h.block⟩
/-- two rows that are one so far -/
theorem take_eq_step {α : Type} {xs ys : List α} {k : Nat} (hx : k < xs.length) (hy : k < ys.length) (h : xs.take k = ys.take k) (e : xs[k] = ys[k]) : xs.take (k + 1) = ys.take (k + 1) := by
  rw [List.take_succ_eq_append_getElem hx, List.take_succ_eq_append_getElem hy, h, e]
theorem take_eq_end {α : Type} {xs ys : List α} (hl : xs.length = ys.length) (h : xs.take xs.length = ys.take xs.length) : xs = ys := by
  rw [List.take_length, List.take_of_length_le (by omega)] at h
  exact h

theorem wp_scope_label {P : Program} {a : Act} {w : World} {Q : Exit → Act → World → Prop} {c rest : Code} (l : Nat) (J : Act → World → Prop) (μ : Act → World → Nat) (hf : findLabel c l = some (Code.skip.seq rest))
    (first : (∀ a w, J a w → rest.wp P (Exit.jump l J Q) a w) → c.wp P (Exit.jump l J Q) a w)
    (pass : ∀ a w, J a w → rest.wp P (Exit.jump l (fun a' w' => J a' w' ∧ μ a' w' < μ a w) Q) a w) : (Code.scope c).wp P Q a w :=
  wp_scope_jumps l J μ hf (first fun a w h => wp_mono (pass a w h) fun e a w q => by cases e <;> first | exact q | exact ⟨q.1, q.2.1⟩)
    fun a w h => wp_seq (wp_skip (pass a w h))
end Go.Proofs.Ytlaflbepidkmnaa
/- Small words, more: cells past an alloc. -/
namespace Go.Proofs.Ytlaflbepidkmnaa
theorem cell_past {w : World} {b o : Nat} {u : Value} (h : w.cell? ⟨b, o, none⟩ = some u) (x : Obj) : (w.alloc x).cell? ⟨b, o, none⟩ = some u := by
  rw [World.cell?_alloc_past _ _ _ (World.block_lt_of_cell? w ⟨b, o, none⟩ h)]
  exact h
end Go.Proofs.Ytlaflbepidkmnaa
/- HeldX -/
namespace Go.Proofs.Ytlaflbepidkmnaa
section
variable {P : Program} {ops : Array Oper} {Q : Exit → Act → World → Prop} {S : World → Prop}

/-- o, run in state a and world w, comes to v and keeps S. -/
def Gives (P : Program) (S : World → Prop) (o : Oper) (a : Act) (w : World) (v : Value) : Prop :=
  match (execOp a.eval o).run P w with
  | .ok (.value u) w' => u = v ∧ S w'
  | .ok (.enter f args) w' => Calls P f args w' fun e w'' => e = .returned v ∧ S w''
  | _ => False

/-- The operations in the order of the text. -/
def hO (P : Program) (ops : Array Oper) (S : World → Prop) (K : Act → Prop) : List Oper → Act → Prop
  | [], a => K a
  | o :: l, a => (Region.wanted o (yielded ops a.tmps) = true ∧ ∃ v, (∀ w, S w → Gives P S o a w v) ∧ hO P ops S K l (a.put o.dst v)) ∨
      (Region.wanted o (yielded ops a.tmps) = false ∧ hO P ops S K l (a.put o.dst undef))

def dstOf (ops : Array Oper) (i : Nat) : Option Tmp := (ops[i]?).bind (·.dst)
/-- all that must come ahead of each of the first k -/
def clo (ops : Array Oper) : Nat → List (List Nat)
  | 0 => []
  | k + 1 => clo ops k ++ [match ops[k]? with
      | none => []
      | some o => (o.after.toList.flatMap fun e => if Region.binds .any e then e.on :: (clo ops k).getD e.on [] else []).eraseDups]
/-- May the region be walked in the order of the text? The first n in any order, the others behind them, one by one. -/
def heldOk (ops : Array Oper) (n : Nat) : Bool :=
  Region.noSelect ops && decide (n ≤ ops.size) &&
  ((List.range ops.size).all fun j => match ops[j]? with
    | none => true
    | some o => o.after.all (fun e => !Region.binds .any e || decide (e.on < j)) &&
      ((List.range ops.size).all fun i => match dstOf ops i with
        | none => true
        | some d => ((i == j) || dstOf ops j != some d) && (!(o.looksAt ops).contains d || (decide (i < j) && o.after.any (fun e => Region.binds .any e && e.on == i))))) &&
  ((List.range ops.size).all fun j => decide (j < n) || (List.range j).all fun i => ((clo ops ops.size).getD j []).contains i)

/-- the state when those of L have come up (of the first k) -/
def stP (ops : Array Oper) (v : Nat → Value) (a0 : Act) (L : Nat → Bool) : Nat → Act
  | 0 => a0
  | k + 1 => match ops[k]? with
    | some o => if L k then (stP ops v a0 L k).put o.dst (v k) else stP ops v a0 L k
    | none => stP ops v a0 L k

variable {v : Nat → Value} {a0 : Act} {L L' : Nat → Bool}

theorem put_size (a : Act) (d : Option Tmp) (u : Value) : (a.put d u).tmps.size = a.tmps.size := by cases d <;> simp [Act.put]
theorem put_defers (a : Act) (d : Option Tmp) (u : Value) : (a.put d u).defers = a.defers := by cases d <;> rfl
theorem put_get (a : Act) (d t : Tmp) (u : Value) : (a.put (some d) u).tmps[t]? = if d = t then (if t < a.tmps.size then some u else none) else a.tmps[t]? := by
  by_cases h : d = t
  · subst h
    simp [Act.put, Array.getElem?_setIfInBounds]
  · simp [Act.put, h]

theorem stP_size : ∀ k, (stP ops v a0 L k).tmps.size = a0.tmps.size
  | 0 => rfl
  | k + 1 => by
    unfold stP
    split
    · split
      · rw [put_size, stP_size k]
      · exact stP_size k
    · exact stP_size k
theorem stP_defers : ∀ k, (stP ops v a0 L k).defers = a0.defers
  | 0 => rfl
  | k + 1 => by
    unfold stP
    split
    · split
      · rw [put_defers, stP_defers k]
      · exact stP_defers k
    · exact stP_defers k
theorem stP_none {t : Tmp} : ∀ k, (∀ i, i < k → L i = true → dstOf ops i ≠ some t) → (stP ops v a0 L k).tmps[t]? = a0.tmps[t]?
  | 0, _ => rfl
  | k + 1, h => by
    have ih := stP_none k (fun i hi => h i (by omega))
    unfold stP
    split
    · rename_i o ho
      split
      · rename_i hl
        have hk := h k (by omega) hl
        unfold dstOf at hk
        rw [ho] at hk
        cases hd : o.dst with
        | none => exact ih
        | some d =>
          rw [put_get, if_neg (fun e => hk (by simp [hd, e]))]
          exact ih
      · exact ih
    · exact ih
theorem stP_some {t : Tmp} {i : Nat} (hi : dstOf ops i = some t) (hL : L i = true) (hd : ∀ j, dstOf ops j = some t → j = i) :
    ∀ k, i < k → (stP ops v a0 L k).tmps[t]? = if t < a0.tmps.size then some (v i) else none
  | 0, h => by omega
  | k + 1, h => by
    by_cases hk : k = i
    · subst hk
      unfold stP
      split
      · rename_i o ho
        rw [if_pos hL]
        have : o.dst = some t := by
          unfold dstOf at hi
          rw [ho] at hi
          exact hi
        rw [this, put_get, if_pos rfl, stP_size]
      · rename_i ho
        unfold dstOf at hi
        rw [ho] at hi
        cases hi
    · have ih := stP_some hi hL hd k (by omega)
      unfold stP
      split
      · rename_i o ho
        split
        · have hne : o.dst ≠ some t := fun e => hk (hd k (by unfold dstOf; rw [ho]; exact e))
          cases hdo : o.dst with
          | none => exact ih
          | some d =>
            rw [put_get, if_neg (fun e => hne (by rw [hdo, e]))]
            exact ih
        · exact ih
      · exact ih
theorem act_ext {a b : Act} (h1 : ∀ t : Nat, a.tmps[t]? = b.tmps[t]?) (h2 : a.defers = b.defers) : a = b := by
  cases a; cases b
  simp only at h1 h2
  subst h2
  congr 1
  exact Array.ext_getElem? h1

/-- each temporary is written by one operation alone -/
def DstOne (ops : Array Oper) : Prop := ∀ i j t, dstOf ops i = some t → dstOf ops j = some t → i = j
theorem stP_look (hd : DstOne ops) {t : Tmp} (h : ∀ i, dstOf ops i = some t → L i = L' i) : (stP ops v a0 L ops.size).tmps[t]? = (stP ops v a0 L' ops.size).tmps[t]? := by
  by_cases hx : ∃ i, dstOf ops i = some t ∧ L i = true
  · obtain ⟨i, hi, hl⟩ := hx
    have hlt : i < ops.size := by
      unfold dstOf at hi
      rcases Nat.lt_or_ge i ops.size with h' | h'
      · exact h'
      · rw [Array.getElem?_eq_none h'] at hi; cases hi
    rw [stP_some hi hl (fun j hj => hd j i t hj hi) _ hlt, stP_some hi (by rw [← h i hi]; exact hl) (fun j hj => hd j i t hj hi) _ hlt]
  · rw [stP_none _ (fun i _ hl hi => hx ⟨i, hi, hl⟩), stP_none _ (fun i _ hl hi => hx ⟨i, hi, by rw [h i hi]; exact hl⟩)]
theorem stP_put (hd : DstOne ops) {i : Nat} {o : Oper} (ho : ops[i]? = some o) (hL : ∀ j, L' j = (L j || j == i)) :
    (stP ops v a0 L ops.size).put o.dst (v i) = stP ops v a0 L' ops.size := by
  have hlt : i < ops.size := (Array.getElem?_eq_some_iff.1 ho).1
  refine act_ext (fun t => ?_) (by rw [put_defers, stP_defers, stP_defers])
  cases hdo : o.dst with
  | none =>
    show (stP ops v a0 L ops.size).tmps[t]? = _
    refine stP_look hd fun j hj => ?_
    rw [hL]
    have : j ≠ i := fun e => by subst e; unfold dstOf at hj; rw [ho] at hj; simp [hdo] at hj
    simp [this]
  | some d =>
    have hid : dstOf ops i = some d := by unfold dstOf; rw [ho]; exact hdo
    rw [put_get, stP_size]
    by_cases ht : d = t
    · subst ht
      rw [if_pos rfl, stP_some hid (by rw [hL]; simp) (fun j hj => hd j i d hj hid) _ hlt]
    · rw [if_neg ht]
      refine stP_look hd fun j hj => ?_
      rw [hL]
      have : j ≠ i := fun e => by subst e; rw [hid] at hj; exact ht (Option.some.inj hj)
      simp [this]
theorem stP_prefix (hd : DstOne ops) : ∀ k, k ≤ ops.size → stP ops v a0 (fun _ => true) k = stP ops v a0 (fun i => decide (i < k)) ops.size := by
  intro k hk
  refine act_ext (fun t => ?_) (by rw [stP_defers, stP_defers])
  by_cases hx : ∃ i, dstOf ops i = some t ∧ i < k
  · obtain ⟨i, hi, hl⟩ := hx
    rw [stP_some hi rfl (fun j hj => hd j i t hj hi) _ hl, stP_some hi (by simpa using hl) (fun j hj => hd j i t hj hi) _ (by omega)]
  · rw [stP_none _ (fun i hl _ hi => hx ⟨i, hi, hl⟩), stP_none _ (fun i _ hl hi => hx ⟨i, hi, by simpa using hl⟩)]

theorem same_eval {o : Oper} {a a' : Act} (hs : ∀ cs b, o.op ≠ .select cs b) (h : ∀ t ∈ o.looksAt ops, a.tmps[t]? = a'.tmps[t]?) : execOp a.eval o = execOp a'.eval o := by
  refine execOp_congr o hs fun x hx => ?_
  cases x with
  | tmp t =>
    have := h t (List.mem_append_left _ (List.mem_filterMap.2 ⟨.tmp t, by simpa using hx, rfl⟩))
    simp only [Act.eval, Array.getD_eq_getD_getElem?, this]
  | _ => rfl
theorem same_wanted {o : Oper} {a a' : Act} (h : ∀ t ∈ o.looksAt ops, a.tmps[t]? = a'.tmps[t]?) : Region.wanted o (yielded ops a.tmps) = Region.wanted o (yielded ops a'.tmps) := by
  unfold Region.wanted
  cases hg : o.guard with
  | none => rfl
  | some gw =>
    obtain ⟨g, want⟩ := gw
    have : yielded ops a.tmps g = yielded ops a'.tmps g := by
      unfold yielded
      cases hd : (ops[g]?).bind (·.dst) with
      | none => rfl
      | some d =>
        have := h d (List.mem_append_right _ (by simp [hg, hd]))
        simp only [Option.bind_some, this]
    simp only [this]

/-- what heldOk says -/
theorem ok_sel {n : Nat} (h : heldOk ops n = true) : Region.noSelect ops = true ∧ n ≤ ops.size := by
  unfold heldOk at h
  simp only [Bool.and_eq_true, decide_eq_true_eq] at h
  exact h.1.1
theorem ok_edge {n : Nat} (h : heldOk ops n = true) {j : Nat} {o : Oper} (ho : ops[j]? = some o) {e : Edge} (he : e ∈ o.after) (hb : Region.binds .any e = true) : e.on < j := by
  unfold heldOk at h
  simp only [Bool.and_eq_true, List.all_eq_true, List.mem_range] at h
  have h1 := h.1.2 j (Array.getElem?_eq_some_iff.1 ho).1
  simp only [ho, Bool.and_eq_true] at h1
  have := Array.all_eq_true_iff_forall_mem.1 h1.1 e he
  simpa [hb] using this
theorem ok_dst {n : Nat} (h : heldOk ops n = true) : DstOne ops := by
  intro i j t hi hj
  unfold heldOk at h
  simp only [Bool.and_eq_true, List.all_eq_true, List.mem_range] at h
  have lt : ∀ i, dstOf ops i = some t → ∃ o, ops[i]? = some o ∧ i < ops.size := fun i hi => by
    unfold dstOf at hi
    cases ho : ops[i]? with
    | none => rw [ho] at hi; cases hi
    | some o => exact ⟨o, rfl, (Array.getElem?_eq_some_iff.1 ho).1⟩
  obtain ⟨o, ho, hlt⟩ := lt j hj
  have h1 := h.1.2 j hlt
  simp only [ho, Bool.and_eq_true, List.all_eq_true, List.mem_range] at h1
  have h2 := h1.2 i (lt i hi).choose_spec.2
  simp only [hi, hj, Bool.and_eq_true, bne_self_eq_false, Bool.or_false, beq_iff_eq] at h2
  exact h2.1
theorem ok_look {n : Nat} (h : heldOk ops n = true) {j : Nat} {o : Oper} (ho : ops[j]? = some o) {t : Tmp} (ht : t ∈ o.looksAt ops) {i : Nat} (hi : dstOf ops i = some t) :
    i < j ∧ ∃ e ∈ o.after, Region.binds .any e = true ∧ e.on = i := by
  unfold heldOk at h
  simp only [Bool.and_eq_true, List.all_eq_true, List.mem_range] at h
  have hlt : i < ops.size := by
    unfold dstOf at hi
    rcases Nat.lt_or_ge i ops.size with h' | h'
    · exact h'
    · rw [Array.getElem?_eq_none h'] at hi; cases hi
  have h1 := h.1.2 j (Array.getElem?_eq_some_iff.1 ho).1
  simp only [ho, Bool.and_eq_true, List.all_eq_true, List.mem_range] at h1
  have h2 := h1.2 i hlt
  simp only [hi, Bool.and_eq_true, Bool.or_eq_true, Bool.not_eq_true', decide_eq_true_eq] at h2
  have hc : (o.looksAt ops).contains t = true := by simpa using ht
  rcases h2.2 with h3 | ⟨h3, h4⟩
  · rw [hc] at h3; cases h3
  · obtain ⟨e, he, hb⟩ := Array.any_eq_true'.1 h4
    simp only [Bool.and_eq_true, beq_iff_eq] at hb
    exact ⟨h3, e, he, hb.1, hb.2⟩
theorem ok_tail {n : Nat} (h : heldOk ops n = true) {j : Nat} (hj : n ≤ j) (hlt : j < ops.size) {i : Nat} (hi : i < j) : i ∈ (clo ops ops.size).getD j [] := by
  unfold heldOk at h
  simp only [Bool.and_eq_true, List.all_eq_true, List.mem_range] at h
  have h1 := h.2 j hlt
  simp only [Bool.or_eq_true, decide_eq_true_eq, List.all_eq_true, List.mem_range] at h1
  rcases h1 with h1 | h1
  · omega
  · simpa using h1 i hi

/-- all that must come ahead has come up -/
def Closed (ops : Array Oper) (listed : Array Bool) : Prop :=
  ∀ j o, ops[j]? = some o → listed.getD j false = true → ∀ e ∈ o.after, Region.binds .any e = true → listed.getD e.on false = true
theorem clo_length : ∀ k, (clo ops k).length = k
  | 0 => rfl
  | k + 1 => by simp [clo, clo_length k]
theorem clo_closed {listed : Array Bool} (hc : Closed ops listed) : ∀ k j, j < k → (∀ o, ops[j]? = some o → ∀ e ∈ o.after, Region.binds .any e = true → listed.getD e.on false = true) →
    ∀ i ∈ (clo ops k).getD j [], listed.getD i false = true
  | 0, j, h, _, _, _ => by omega
  | k + 1, j, h, hall, i, hi => by
    unfold clo at hi
    by_cases hk : j = k
    · subst hk
      rw [List.getD_eq_getElem?_getD, List.getElem?_append_right (by rw [clo_length]; exact Nat.le_refl _), clo_length] at hi
      simp only [Nat.sub_self, List.getElem?_cons_zero, Option.getD_some] at hi
      cases ho : ops[j]? with
      | none => rw [ho] at hi; simp at hi
      | some o =>
        rw [ho] at hi
        simp only [List.mem_eraseDups, List.mem_flatMap] at hi
        obtain ⟨e, he, hi⟩ := hi
        have he' : e ∈ o.after := by simpa using he
        by_cases hb : Region.binds .any e = true
        · rw [if_pos hb] at hi
          have hon := hall o ho e he' hb
          rcases List.mem_cons.1 hi with rfl | hi
          · exact hon
          · by_cases hej : e.on < j
            · exact clo_closed hc j e.on hej (fun o' ho' e' he' hb' => hc e.on o' ho' hon e' he' hb') i hi
            · rw [List.getD_eq_getElem?_getD, List.getElem?_eq_none (by rw [clo_length]; omega)] at hi
              simp at hi
        · rw [if_neg hb] at hi
          simp at hi
    · rw [List.getD_eq_getElem?_getD, List.getElem?_append_left (by rw [clo_length]; omega), ← List.getD_eq_getElem?_getD] at hi
      exact clo_closed hc k j (by omega) hall i hi

theorem listed_at {listed : Array Bool} (hsz : listed.size = ops.size) {j : Nat} (hj : j < ops.size) : listed.getD j true = listed.getD j false := by
  simp [hsz, hj]
theorem closed_set {listed : Array Bool} (hc : Closed ops listed) {i : Nat} (hi : i ∈ Region.ready .any ops listed) : Closed ops (listed.setIfInBounds i true) := by
  intro j o ho hl e he hb
  refine getD_set_true ?_
  by_cases hij : i = j
  · subst hij
    obtain ⟨_, o', ho', hall⟩ := mem_ready.1 hi
    rw [ho] at ho'
    cases ho'
    exact hall e he hb
  · rw [getD_set_ne false hij] at hl
    exact hc j o ho hl e he hb

/-- the forced end of a region -/
theorem tail_any {n : Nat} (hok : heldOk ops n = true) : ∀ (d m fuel : Nat) (listed : Array Bool) (a : Act) (w : World), listed.size = ops.size → Closed ops listed → n ≤ m → m + d = ops.size → d ≤ fuel →
    (∀ i, i < ops.size → listed.getD i false = decide (i < m)) → wpOps P ops Q (List.range' m d) a w → wpAny P .any ops Q fuel listed a w
  | 0, m, fuel, listed, a, w, hsz, hc, hn, hm, hf, hl, h => by
    have hr : Region.ready .any ops listed = [] := by
      refine List.eq_nil_iff_forall_not_mem.2 fun i hi => ?_
      obtain ⟨h0, o, ho, _⟩ := mem_ready.1 hi
      have hlt := (Array.getElem?_eq_some_iff.1 ho).1
      rw [listed_at hsz hlt, hl i hlt] at h0
      simp at h0
      omega
    exact wpAny_done hr h fuel
  | d + 1, m, 0, listed, a, w, hsz, hc, hn, hm, hf, hl, h => by omega
  | d + 1, m, fuel + 1, listed, a, w, hsz, hc, hn, hm, hf, hl, h => by
    have hmlt : m < ops.size := by omega
    obtain ⟨om, hom⟩ : ∃ o, ops[m]? = some o := ⟨ops[m], by simp [hmlt]⟩
    have hin : m ∈ Region.ready .any ops listed := by
      refine mem_ready.2 ⟨by rw [listed_at hsz hmlt, hl m hmlt]; simp, om, hom, fun e he hb => ?_⟩
      have := ok_edge hok hom he hb
      rw [hl _ (by omega)]
      simpa using this
    refine ⟨fun h0 => (by rw [h0] at hin; cases hin), fun i hi => ?_⟩
    have him : i = m := by
      obtain ⟨h0, o, ho, hall⟩ := mem_ready.1 hi
      have hlt := (Array.getElem?_eq_some_iff.1 ho).1
      rw [listed_at hsz hlt, hl i hlt] at h0
      simp only [decide_eq_false_iff_not, Nat.not_lt] at h0
      rcases Nat.eq_or_lt_of_le h0 with h1 | h1
      · exact h1.symm
      · exfalso
        have := clo_closed hc ops.size i hlt (fun o' ho' e he hb => by rw [ho] at ho'; cases ho'; exact hall e he hb) m (ok_tail hok (by omega) hlt h1)
        rw [hl m hmlt] at this
        simp at this
    subst him
    rw [List.range'_succ, wpOps_cons] at h
    refine wpOp_mono (fun a' w' h' => tail_any hok d (i + 1) fuel _ a' w' (by simpa using hsz) (closed_set hc hi) (by omega) (by omega) (by omega) (fun k hk => ?_) h') h
    by_cases hki : i = k
    · subst hki
      simp [hsz, hmlt]
    · rw [getD_set_ne false hki, hl k hk]
      congr 1
      simp only [eq_iff_iff]
      omega

/-- operation j does as v says, in the state in which the text comes to it -/
def GoodAt (P : Program) (ops : Array Oper) (S : World → Prop) (v : Nat → Value) (a0 : Act) (j : Nat) (o : Oper) : Prop :=
  (Region.wanted o (yielded ops (stP ops v a0 (fun _ => true) j).tmps) = true ∧ ∀ w, S w → Gives P S o (stP ops v a0 (fun _ => true) j) w (v j)) ∨
  (Region.wanted o (yielded ops (stP ops v a0 (fun _ => true) j).tmps) = false ∧ v j = undef)

theorem gives_wp {o : Oper} {a : Act} {w : World} {u : Value} {K : Act → World → Prop} (h : Gives P S o a w u) (hK : ∀ w', S w' → K (a.put o.dst u) w') : o.wp P a w K Q := by
  unfold Gives at h
  unfold Oper.wp
  generalize (execOp a.eval o).run P w = r at h
  cases r with
  | ok x w' =>
    cases x <;> simp only [] at h
    case value u' => obtain ⟨rfl, hs⟩ := h; exact hK _ hs
    case enter f args =>
      refine Calls.mono h fun e w'' he => ?_
      obtain ⟨rfl, hs⟩ := he
      exact hK _ hs
  | halt x w' => exact h.elim

theorem held_any {n : Nat} (hok : heldOk ops n = true) (H : ∀ j, j < n → ∀ o, ops[j]? = some o → GoodAt P ops S v a0 j o)
    (K : ∀ w, S w → wpOps P ops Q (List.range' n (ops.size - n)) (stP ops v a0 (fun _ => true) n) w) :
    ∀ (fuel : Nat) (listed : Array Bool) (w : World), listed.size = ops.size → Closed ops listed → listed.toList.count false ≤ fuel → (∀ j, n ≤ j → j < ops.size → listed.getD j false = false) → S w →
      wpAny P .any ops Q fuel listed (stP ops v a0 (fun i => listed.getD i false) ops.size) w := by
  have hd := ok_dst hok
  have hns := (ok_sel hok).2
  intro fuel
  induction fuel with
  | zero =>
    intro listed w hsz hc hf hT hS
    have hall : ∀ i, i < ops.size → listed.getD i false = true := fun i hi => by
      have h0 : List.count false listed.toList = 0 := by omega
      rw [List.count_eq_zero] at h0
      have hi' : i < listed.size := by omega
      cases hx : listed.getD i false with
      | true => rfl
      | false =>
        exfalso
        apply h0
        have : listed[i] = false := by simpa [hi'] using hx
        rw [← this]
        exact Array.mem_toList_iff.2 (Array.getElem_mem hi')
    have hsn : n = ops.size := by
      rcases Nat.eq_or_lt_of_le hns with h | h
      · exact h
      · have := hT n (Nat.le_refl _) h
        rw [hall n h] at this
        cases this
    have := K w hS
    rw [stP_prefix hd n hns] at this
    refine tail_any hok (ops.size - n) n 0 listed _ w hsz hc (Nat.le_refl _) (by omega) (by omega) (fun i hi => by rw [hall i hi]; simp; omega) ?_
    have e : stP ops v a0 (fun i => listed.getD i false) ops.size = stP ops v a0 (fun i => decide (i < n)) ops.size := by
      refine act_ext (fun t => stP_look hd fun i hi => ?_) (by rw [stP_defers, stP_defers])
      have hlt : i < ops.size := by
        unfold dstOf at hi
        rcases Nat.lt_or_ge i ops.size with h' | h'
        · exact h'
        · rw [Array.getElem?_eq_none h'] at hi; cases hi
      rw [hall i hlt]
      simp
      omega
    rw [e]
    exact this
  | succ fuel ih =>
    intro listed w hsz hc hf hT hS
    by_cases hall : ∀ i, i < n → listed.getD i false = true
    · have := K w hS
      rw [stP_prefix hd n hns] at this
      have hl : ∀ i, i < ops.size → listed.getD i false = decide (i < n) := fun i hi => by
        by_cases h : i < n
        · rw [hall i h]; simp [h]
        · rw [hT i (by omega) hi]; simp; omega
      have e : stP ops v a0 (fun i => listed.getD i false) ops.size = stP ops v a0 (fun i => decide (i < n)) ops.size := by
        refine act_ext (fun t => stP_look hd fun i hi => ?_) (by rw [stP_defers, stP_defers])
        have hlt : i < ops.size := by
          unfold dstOf at hi
          rcases Nat.lt_or_ge i ops.size with h' | h'
          · exact h'
          · rw [Array.getElem?_eq_none h'] at hi; cases hi
        exact hl i hlt
      rw [e]
      have hcount : ops.size - n ≤ listed.toList.count false := by
        have h1 : (listed.toList.drop n).count false = ops.size - n := by
          rw [List.count_eq_length.2]
          · simp [hsz]
          · intro x hx
            obtain ⟨i, hi, rfl⟩ := List.getElem_of_mem hx
            rw [List.getElem_drop]
            simp only [List.length_drop, Array.length_toList] at hi
            have := hT (n + i) (by omega) (by omega)
            have hlt : n + i < listed.size := by omega
            simpa [hlt] using this.symm
        have h2 : listed.toList.count false = (listed.toList.take n).count false + (listed.toList.drop n).count false := by
          rw [← List.count_append, List.take_append_drop]
        omega
      exact tail_any hok (ops.size - n) n (fuel + 1) listed _ w hsz hc (Nat.le_refl _) (by omega) (by omega) hl this
    · obtain ⟨k, hkn, hk⟩ : ∃ k, k < n ∧ listed.getD k false = false := by
        apply Classical.byContradiction
        intro hno
        apply hall
        intro i hi
        cases hx : listed.getD i false with
        | true => rfl
        | false => exact absurd ⟨i, hi, hx⟩ hno
      have hready : ∃ k, k ∈ Region.ready .any ops listed := by
        -- the least that has not come up
        have : ∀ m, (∃ k, k < m ∧ k < n ∧ listed.getD k false = false) → ∃ k, k ∈ Region.ready .any ops listed := by
          intro m
          induction m with
          | zero => rintro ⟨k, h, _⟩; omega
          | succ m ihm =>
            rintro ⟨k, h, hkn, hk⟩
            by_cases hx : ∃ k, k < m ∧ k < n ∧ listed.getD k false = false
            · exact ihm hx
            · have hlt : k < ops.size := by omega
              refine ⟨k, mem_ready.2 ⟨by rw [listed_at hsz hlt]; exact hk, ops[k], by simp [hlt], fun e he hb => ?_⟩⟩
              have := ok_edge hok (j := k) (o := ops[k]) (by simp [hlt]) he hb
              cases hy : listed.getD e.on false with
              | true => rfl
              | false => exact absurd ⟨e.on, by omega, by omega, hy⟩ hx
        exact this n ⟨k, hkn, hkn, hk⟩
      refine ⟨fun h0 => (by obtain ⟨k, hk⟩ := hready; rw [h0] at hk; cases hk), fun i hi => ?_⟩
      obtain ⟨h0, o, ho, hafter⟩ := mem_ready.1 hi
      have hlt := (Array.getElem?_eq_some_iff.1 ho).1
      have hin : i < n := by
        rcases Nat.lt_or_ge i n with h | h
        · exact h
        · exfalso
          have := clo_closed hc ops.size i hlt (fun o' ho' e he hb => by rw [ho] at ho'; cases ho'; exact hafter e he hb) k (ok_tail hok h hlt (by omega))
          rw [hk] at this
          cases this
      have hset : ∀ j, (listed.setIfInBounds i true).getD j false = (listed.getD j false || j == i) := fun j => by
        by_cases hij : i = j
        · subst hij; simp [hsz, hlt]
        · rw [getD_set_ne false hij]
          have : (j == i) = false := by simpa using fun e => hij e.symm
          rw [this, Bool.or_false]
      have hsame : ∀ t ∈ o.looksAt ops, (stP ops v a0 (fun i => listed.getD i false) ops.size).tmps[t]? = (stP ops v a0 (fun _ => true) i).tmps[t]? := fun t ht => by
        rw [stP_prefix hd i (by omega)]
        refine stP_look hd fun j hj => ?_
        obtain ⟨hji, e, he, hb, rfl⟩ := ok_look hok ho ht hj
        rw [hafter e he hb]
        simpa using hji
      have hev := same_eval (Region.noSelect_spec (ok_sel hok).1 i o · · ho) hsame
      have hwa := same_wanted (ops := ops) hsame
      have next : ∀ w', S w' → wpAny P .any ops Q fuel (listed.setIfInBounds i true) ((stP ops v a0 (fun i => listed.getD i false) ops.size).put o.dst (v i)) w' := fun w' hS' => by
        rw [stP_put hd ho (L' := fun j => (listed.setIfInBounds i true).getD j false) hset]
        refine ih _ w' (by simpa using hsz) (closed_set hc hi) ?_ (fun j hj hjl => ?_) hS'
        · have hi' : i < listed.toList.length := by simpa [hsz] using hlt
          have hfalse : listed.toList[i] = false := by
            have := h0
            have hi'' : i < listed.size := by omega
            simpa [hi''] using this
          rw [Array.toList_setIfInBounds, List.count_set hi']
          simp only [hfalse]
          simp
          have : 0 < listed.toList.count false := List.count_pos_iff.2 (by rw [← hfalse]; exact List.getElem_mem hi')
          rw [← Array.count_toList]
          omega
        · rw [getD_set_ne false (by omega)]
          exact hT j hj hjl
      unfold wpOp
      simp only [ho]
      rcases H i hin o ho with ⟨hw, hg⟩ | ⟨hw, hu⟩
      · rw [hwa, hw, if_pos rfl]
        refine .inl ?_
        have hg := hg w hS
        unfold Gives at hg
        rw [← hev] at hg
        exact gives_wp (S := S) (by unfold Gives; exact hg) next
      · rw [hwa, hw]
        simp only [Bool.false_eq_true, if_false]
        rw [← hu]
        exact next w hS

/-- out of the walk in the order of the text: what each comes to -/
theorem hO_spec {K : Act → Prop} : ∀ (l : List Oper) (a : Act), hO P ops S K l a → ∃ vs : List Value, vs.length = l.length ∧ K ((l.zip vs).foldl (fun a p => a.put p.1.dst p.2) a) ∧
    ∀ j (o : Oper), l[j]? = some o → ∀ (b : Act), b = ((l.zip vs).take j).foldl (fun a p => a.put p.1.dst p.2) a →
      (Region.wanted o (yielded ops b.tmps) = true ∧ ∀ w, S w → Gives P S o b w (vs.getD j undef)) ∨ (Region.wanted o (yielded ops b.tmps) = false ∧ vs.getD j undef = undef)
  | [], a, h => ⟨[], rfl, h, fun j o ho => by simp at ho⟩
  | o :: l, a, h => by
    rcases h with ⟨hw, u, hg, h⟩ | ⟨hw, h⟩
    · obtain ⟨vs, hl, hK, hs⟩ := hO_spec l _ h
      refine ⟨u :: vs, by simp [hl], by simpa using hK, fun j o' ho b hb => ?_⟩
      cases j with
      | zero =>
        simp only [List.getElem?_cons_zero, Option.some.injEq] at ho
        subst ho
        simp only [List.take_zero, List.foldl_nil] at hb
        subst hb
        exact .inl ⟨hw, by simpa using hg⟩
      | succ j => simpa using hs j o' (by simpa using ho) b (by simpa using hb)
    · obtain ⟨vs, hl, hK, hs⟩ := hO_spec l _ h
      refine ⟨undef :: vs, by simp [hl], by simpa using hK, fun j o' ho b hb => ?_⟩
      cases j with
      | zero =>
        simp only [List.getElem?_cons_zero, Option.some.injEq] at ho
        subst ho
        simp only [List.take_zero, List.foldl_nil] at hb
        subst hb
        exact .inr ⟨hw, by simp⟩
      | succ j => simpa using hs j o' (by simpa using ho) b (by simpa using hb)
theorem fold_stP (vs : List Value) (n : Nat) (hn : n ≤ ops.size) (hl : vs.length = n) : ∀ k, k ≤ n →
    (((ops.toList.take n).zip vs).take k).foldl (fun a p => a.put p.1.dst p.2) a0 = stP ops (fun j => vs.getD j undef) a0 (fun _ => true) k
  | 0, _ => rfl
  | k + 1, hk => by
    have hk' : k < ((ops.toList.take n).zip vs).length := by simp [hl]; omega
    rw [List.take_succ_eq_append_getElem hk', List.foldl_append, fold_stP vs n hn hl k (by omega)]
    have hkl : k < vs.length := by omega
    have hko : k < ops.size := by omega
    simp only [stP, Array.getElem?_eq_getElem hko, if_true, List.foldl_cons, List.foldl_nil, List.getElem_zip, List.getElem_take, Array.getElem_toList]
    rw [List.getD_eq_getElem?_getD, List.getElem?_eq_getElem hkl, Option.getD_some]

/-- A region that draws: its first n operations in the order of the text, under S; the others one by one, in the world that is then. -/
theorem wp_region_text {id n : Nat} {a : Act} {w : World} (hm : P.follows .mixedOrders = true) (hok : heldOk ops n = true) (hS : S w.drew)
    (h : ∀ K : Act → Prop, (∀ a', (∀ w', S w' → wpList P ops Q (ops.toList.drop n) a' w') → K a') → hO P ops S K (ops.toList.take n) a) : (Code.region id ops true).wp P Q a w := by
  have hT : wpOps P ops Q (List.range' n (ops.size - n)) = wpList P ops Q (ops.toList.drop n) := by
    have := wpOps_eq_wpList (P := P) (ops := ops) (Q := Q) (ops.toList.drop n) n (fun j => by simp)
    simpa using this
  have h := h _ (fun _ h => h)
  rw [← hT] at h
  obtain ⟨vs, hl, hK, hs⟩ := hO_spec _ _ h
  have hns := (ok_sel hok).2
  have hl' : vs.length = n := by rw [hl]; simp [hns]
  have hfold := fold_stP (ops := ops) (a0 := a) vs n hns hl'
  refine wp_region_any hm ?_
  have := held_any (P := P) (Q := Q) (S := S) (v := fun j => vs.getD j undef) (a0 := a) hok (fun j hj o ho => ?_) (fun w' hS' => ?_) ops.size (Array.replicate ops.size false) { w with drawn := w.drawn + 1 } (by simp) ?_ (by simp) (fun j _ hj => by simp [hj]) hS
  · have e : stP ops (fun j => vs.getD j undef) a (fun i => (Array.replicate ops.size false).getD i false) ops.size = a := by
      refine act_ext (fun t => stP_none _ (fun i hi hl => ?_)) (stP_defers _)
      simp [hi] at hl
    rw [e] at this
    exact this
  · exact hs j o (by rw [List.getElem?_take, if_pos hj]; simpa using ho) _ (hfold j (by omega)).symm
  · have := hK w' hS'
    rw [← List.take_of_length_le (l := (ops.toList.take n).zip vs) (i := n) (by simp [hl']; exact Nat.min_le_left _ _), hfold n (Nat.le_refl _)] at this
    exact this
  · intro j o ho hl
    have hlt := (Array.getElem?_eq_some_iff.1 ho).1
    simp [hlt] at hl

/-- all of it -/
theorem wp_region_all {id : Nat} {a : Act} {w : World} (hm : P.follows .mixedOrders = true) (hok : heldOk ops ops.size = true) (hS : S w.drew)
    (h : ∀ K : Act → Prop, (∀ a', (∀ w', S w' → Q .normal a' w') → K a') → hO P ops S K ops.toList a) : (Code.region id ops true).wp P Q a w :=
  wp_region_text hm hok hS fun K hK => by
    rw [List.take_of_length_le (by simp)]
    refine h K fun a' h' => hK a' fun w' hS' => ?_
    rw [List.drop_of_length_le (by simp)]
    exact h' w' hS'

/-! the steps -/
section
variable {K : Act → Prop} {o : Oper} {l : List Oper} {a : Act} {u : Value} {g : Nat} {f : FuncId} {args : Array Value}
theorem hO_val (hv : ∀ w, S w → (execOp a.eval o).run P w = .ok (.value u) w) (hg : o.guard = none) (h : hO P ops S K l (a.put o.dst u)) : hO P ops S K (o :: l) a :=
  .inl ⟨by simp [Region.wanted, hg], u, fun w hS => by unfold Gives; rw [hv w hS]; exact ⟨rfl, hS⟩, h⟩
theorem hO_call (hg : o.guard = none) (hv : ∀ w, S w → (execOp a.eval o).run P w = .ok (.enter f args) w) (hc : ∀ w, S w → Calls P f args w fun e w' => e = .returned u ∧ S w') (h : hO P ops S K l (a.put o.dst u)) :
    hO P ops S K (o :: l) a :=
  .inl ⟨by simp [Region.wanted, hg], u, fun w hS => by unfold Gives; rw [hv w hS]; exact hc w hS, h⟩
theorem hO_off {want : Bool} (hg : o.guard = some (g, want)) (hy : yielded ops a.tmps g = some (!want)) (h : hO P ops S K l (a.put o.dst undef)) : hO P ops S K (o :: l) a :=
  .inr ⟨by simp [Region.wanted, hg, hy], h⟩
theorem hO_if {b want : Bool} (hg : o.guard = some (g, want)) (hy : yielded ops a.tmps g = some b) (hv : b = want → ∀ w, S w → (execOp a.eval o).run P w = .ok (.value u) w)
    (h : hO P ops S K l (a.put o.dst (bif b == want then u else undef))) : hO P ops S K (o :: l) a := by
  by_cases hb : b = want
  · subst hb
    simp only [beq_self_eq_true, cond_true] at h
    exact .inl ⟨by simp [Region.wanted, hg, hy], u, fun w hS => by unfold Gives; rw [hv rfl w hS]; exact ⟨rfl, hS⟩, h⟩
  · have : (b == want) = false := by simpa using hb
    rw [this] at h
    exact .inr ⟨by simp [Region.wanted, hg, hy, hb], h⟩
theorem hO_ifcall {b want : Bool} (hg : o.guard = some (g, want)) (hy : yielded ops a.tmps g = some b) (hv : b = want → ∀ w, S w → (execOp a.eval o).run P w = .ok (.enter f args) w)
    (hc : b = want → ∀ w, S w → Calls P f args w fun e w' => e = .returned u ∧ S w')
    (h : hO P ops S K l (a.put o.dst (bif b == want then u else undef))) : hO P ops S K (o :: l) a := by
  by_cases hb : b = want
  · subst hb
    simp only [beq_self_eq_true, cond_true] at h
    exact .inl ⟨by simp [Region.wanted, hg, hy], u, fun w hS => by unfold Gives; rw [hv rfl w hS]; exact hc rfl w hS, h⟩
  · have : (b == want) = false := by simpa using hb
    rw [this] at h
    exact .inr ⟨by simp [Region.wanted, hg, hy, hb], h⟩
theorem hO_and {c x : Operand} {p q : Bool} (hg : o.guard = none) (ho : o.op = .pick c x (.const (.bool false))) (hc : a.eval c = .bool p) (hx : a.eval x = bif p == true then .bool q else undef)
    (h : hO P ops S K l (a.put o.dst (.bool (p && q)))) : hO P ops S K (o :: l) a := by
  refine hO_val (u := .bool (p && q)) (fun w hS => ?_) hg h
  obtain ⟨dst, op, type, pos, after, guard⟩ := o
  simp only at ho
  subst ho
  cases p <;> simp_all [execOp, Act.eval, go_sem]
theorem hO_or {c y : Operand} {p q : Bool} (hg : o.guard = none) (ho : o.op = .pick c (.const (.bool true)) y) (hc : a.eval c = .bool p) (hy : a.eval y = bif p == false then .bool q else undef)
    (h : hO P ops S K l (a.put o.dst (.bool (p || q)))) : hO P ops S K (o :: l) a := by
  refine hO_val (u := .bool (p || q)) (fun w hS => ?_) hg h
  obtain ⟨dst, op, type, pos, after, guard⟩ := o
  simp only at ho
  subst ho
  cases p <;> simp_all [execOp, Act.eval, go_sem]
theorem hO_nil (h : K a) : hO P ops S K [] a := h
end
/-- slots whose values no longer matter -/
def fillF (f : Nat → Value) : Nat → Nat → List Value
  | _, 0 => []
  | k, n + 1 => f k :: fillF f (k + 1) n
theorem fillF_get (l : List Value) : ∀ (n k : Nat), k + n ≤ l.length → fillF (fun i => l.getD i undef) k n = (l.drop k).take n
  | 0, k, _ => rfl
  | n + 1, k, h => by
    rw [fillF, fillF_get l n (k + 1) (by omega), List.drop_eq_getElem_cons (show k < l.length by omega), List.take_succ_cons]
    congr 1
    simp [List.getElem?_eq_getElem (show k < l.length by omega)]
theorem forget_range {K : Act → Prop} {l : List Value} {d : List Deferred} (lo n : Nat) (hn : lo + n ≤ l.length) (h : ∀ f : Nat → Value, K ⟨(l.take lo ++ (fillF f lo n ++ l.drop (lo + n))).toArray, d⟩) : K ⟨l.toArray, d⟩ := by
  have := h (fun i => l.getD i undef)
  rw [fillF_get l n lo hn, ← List.drop_drop, List.take_append_drop, List.take_append_drop] at this
  exact this
/-- a region that does not draw, walked likewise -/
theorem wpList_of_hO {R : List Oper} : ∀ (l : List Oper) (a : Act) (w : World), S w → hO P ops S (fun a' => ∀ w', S w' → wpList P ops Q R a' w') l a → wpList P ops Q (l ++ R) a w
  | [], a, w, hS, h => h w hS
  | o :: l, a, w, hS, h => by
    rw [List.cons_append]
    refine wpList_step fun K hK => ?_
    rcases h with ⟨hw, u, hg, h⟩ | ⟨hw, h⟩
    · rw [if_pos hw]
      exact gives_wp (S := S) (hg w hS) fun w' hS' => hK _ _ (wpList_of_hO l _ w' hS' h)
    · rw [hw]
      simp only [Bool.false_eq_true, if_false]
      exact hK _ _ (wpList_of_hO l _ w hS h)
theorem wp_region_plain {id n : Nat} {a : Act} {w : World} (hS : S w) (h : ∀ K : Act → Prop, (∀ a', (∀ w', S w' → wpList P ops Q (ops.toList.drop n) a' w') → K a') → hO P ops S K (ops.toList.take n) a) :
    (Code.region id ops false).wp P Q a w :=
  wp_region_list (by have := wpList_of_hO _ a w hS (h _ (fun _ h => h)); rwa [List.take_append_drop] at this)
theorem wp_region_all' {id : Nat} {a : Act} {w : World} (hS : S w) (h : ∀ K : Act → Prop, (∀ a', (∀ w', S w' → Q .normal a' w') → K a') → hO P ops S K ops.toList a) : (Code.region id ops false).wp P Q a w :=
  wp_region_list (by
    have := wpList_of_hO (P := P) (ops := ops) (Q := Q) (S := S) (R := []) ops.toList a w hS (h _ (fun _ h => h))
    rwa [List.append_nil] at this)
end

open Go.RowKit
/-- w has all that w0 has, as it was. -/
structure Ext (w0 w : World) : Prop where
  below : Below w0.heap.size w0 w
theorem Ext.refl (w : World) : Ext w w := ⟨Below.refl _ _⟩
theorem Ext.trans {a b c : World} (h : Ext a b) (k : Ext b c) : Ext a c := ⟨h.below.trans (k.below.mono h.below.size)⟩
theorem Ext.call {w0 w w' : World} (h : Ext w0 w) (hb : Below w.heap.size w w') : Ext w0 w' := h.trans ⟨hb⟩
theorem Ext.drew {w0 w : World} (h : Ext w0 w) : Ext w0 w.drew := ⟨h.below.drew⟩
theorem Ext.alloc {w0 w : World} (h : Ext w0 w) (o : Obj) : Ext w0 (w.alloc o) := ⟨h.below.alloc h.below.size o⟩
theorem Ext.cell {w0 w : World} (h : Ext w0 w) {b o : Nat} {v : Value} (hc : w0.cell? ⟨b, o, none⟩ = some v) : w.cell? ⟨b, o, none⟩ = some v :=
  (h.below.cell (World.block_lt_of_cell? w0 ⟨b, o, none⟩ hc)).trans hc
theorem Ext.grown {W w w' : World} (h : Ext W w) {row : Option Nat} (hg : w.grownBy w' row) (hr : ∀ k, row = some k → W.heap.size ≤ k) : Ext W w' := ⟨h.below.grown hg h.below.size hr⟩
theorem callX {P : Program} {f : FuncId} {args : Array Value} {w0 w : World} {u : Value} (hX : Ext w0 w) (h : Calls P f args w fun e w' => e = .returned u ∧ Below w.heap.size w w') : Calls P f args w fun e w' => e = .returned u ∧ Ext w0 w' :=
  h.mono fun _ _ ⟨he, hb⟩ => ⟨he, hX.call hb⟩
theorem callS {P : Program} {f : FuncId} {args : Array Value} {S : World → Prop} {w : World} {u : Value} (hX : S w) (h : Calls P f args w fun e w' => e = .returned u ∧ w = w') : Calls P f args w fun e w' => e = .returned u ∧ S w' :=
  h.mono fun _ _ ⟨he, hb⟩ => ⟨he, hb ▸ hX⟩
theorem Ext.size {w0 w : World} (h : Ext w0 w) : w0.heap.size ≤ w.heap.size := h.below.size
end Go.Proofs.Ytlaflbepidkmnaa
/- Regions that draw their order: some operations come to what they come to whatever the order is; the others are walked in each order among themselves. -/
namespace Go.Proofs.Ytlaflbepidkmnaa
open Go.RowKit
section
variable {P : Program} {ops : Array Oper} {Q : Exit → Act → World → Prop} {S : World → Prop} {R : Act → World → Prop}

def noPanic (Q : Exit → Act → World → Prop) : Prop := ∀ e a w, ¬ Q e a w
def qNone : Exit → Act → World → Prop := fun _ _ _ => False
/-- the others, in whatever order, each in a world that may have grown -/
def wpX (P : Program) (ops : Array Oper) (S : World → Prop) (R : Act → World → Prop) : Nat → Array Bool → Act → World → Prop
  | 0, listed, a, w => Region.ready .any ops listed = [] ∧ ∀ w', Ext w w' → R a w'
  | f + 1, listed, a, w => (Region.ready .any ops listed = [] → ∀ w', Ext w w' → R a w') ∧
      ∀ i ∈ Region.ready .any ops listed, ∀ w', Ext w w' → wpOp P ops qNone i (fun a' w'' => S w'' ∧ wpX P ops S R f (listed.setIfInBounds i true) a' w'') a w'
theorem wpX_ext : ∀ {f : Nat} {listed : Array Bool} {a : Act} {w w' : World}, wpX P ops S R f listed a w → Ext w w' → wpX P ops S R f listed a w'
  | 0, _, _, _, _, h, hx => ⟨h.1, fun w2 h2 => h.2 w2 (hx.trans h2)⟩
  | _ + 1, _, _, _, _, h, hx => ⟨fun h0 w2 h2 => h.1 h0 w2 (hx.trans h2), fun i hi w2 h2 => h.2 i hi w2 (hx.trans h2)⟩
theorem wpX_one {i : Nat} {o : Oper} {f : Nat} {listed : Array Bool} {a : Act} {w : World} (hr : Region.ready .any ops listed = [i]) (ho : ops[i]? = some o) (hg : o.guard = none)
    (h : ∀ w', Ext w w' → ∀ K : Act → World → Prop, (∀ a' w'', S w'' → wpX P ops S R f (listed.setIfInBounds i true) a' w'' → K a' w'') → o.wp P a w' K qNone) : wpX P ops S R (f + 1) listed a w := by
  refine ⟨fun h0 => (by rw [h0] at hr; cases hr), fun j hj w' hx => ?_⟩
  rw [hr] at hj
  obtain rfl : j = i := by simpa using hj
  unfold wpOp
  simp only [ho]
  rw [show Region.wanted o (yielded ops a.tmps) = true by simp [Region.wanted, hg], if_pos rfl]
  exact .inl (h w' hx _ fun a' w'' he hk => ⟨he, hk⟩)
theorem wpX_want {i : Nat} {o : Oper} {f : Nat} {listed : Array Bool} {a : Act} {w : World} (hr : Region.ready .any ops listed = [i]) (ho : ops[i]? = some o) (hw : Region.wanted o (yielded ops a.tmps) = true)
    (h : ∀ w', Ext w w' → ∀ K : Act → World → Prop, (∀ a' w'', S w'' → wpX P ops S R f (listed.setIfInBounds i true) a' w'' → K a' w'') → o.wp P a w' K qNone) : wpX P ops S R (f + 1) listed a w := by
  refine ⟨fun h0 => (by rw [h0] at hr; cases hr), fun j hj w' hx => ?_⟩
  rw [hr] at hj
  obtain rfl : j = i := by simpa using hj
  unfold wpOp
  simp only [ho]
  rw [hw, if_pos rfl]
  exact .inl (h w' hx _ fun a' w'' he hk => ⟨he, hk⟩)
theorem wpX_two {i j : Nat} {oi oj : Oper} {f : Nat} {listed : Array Bool} {a : Act} {w : World} (hr : Region.ready .any ops listed = [i, j]) (hi : ops[i]? = some oi) (hj : ops[j]? = some oj) (hgi : oi.guard = none) (hgj : oj.guard = none)
    (h1 : ∀ w', Ext w w' → ∀ K : Act → World → Prop, (∀ a' w'', S w'' → wpX P ops S R f (listed.setIfInBounds i true) a' w'' → K a' w'') → oi.wp P a w' K qNone)
    (h2 : ∀ w', Ext w w' → ∀ K : Act → World → Prop, (∀ a' w'', S w'' → wpX P ops S R f (listed.setIfInBounds j true) a' w'' → K a' w'') → oj.wp P a w' K qNone) : wpX P ops S R (f + 1) listed a w := by
  refine ⟨fun h0 => (by rw [h0] at hr; cases hr), fun k hk w' hx => ?_⟩
  rw [hr] at hk
  unfold wpOp
  rcases List.mem_cons.1 hk with rfl | hk
  · simp only [hi]
    rw [show Region.wanted oi (yielded ops a.tmps) = true by simp [Region.wanted, hgi], if_pos rfl]
    exact .inl (h1 w' hx _ fun a' w'' he hk => ⟨he, hk⟩)
  · obtain rfl : k = j := by simpa using hk
    simp only [hj]
    rw [show Region.wanted oj (yielded ops a.tmps) = true by simp [Region.wanted, hgj], if_pos rfl]
    exact .inl (h2 w' hx _ fun a' w'' he hk => ⟨he, hk⟩)
theorem wpX_done {listed : Array Bool} {a : Act} {w : World} (hr : Region.ready .any ops listed = []) (h : ∀ w', Ext w w' → R a w') : ∀ f, wpX P ops S R f listed a w
  | 0 => ⟨hr, h⟩
  | _ + 1 => ⟨fun _ => h, by rw [hr]; simp⟩

/-- held: the operations outside T -/
def mixOk (ops : Array Oper) (T : List Nat) : Bool :=
  Region.noSelect ops &&
  ((List.range ops.size).all fun j => match ops[j]? with
    | none => true
    | some o => o.after.all (fun e => !Region.binds .any e || decide (e.on < j)) &&
      ((List.range ops.size).all fun i => match dstOf ops i with
        | none => true
        | some d => ((i == j) || dstOf ops j != some d) && (!(o.looksAt ops).contains d || (decide (i < j) && o.after.any (fun e => Region.binds .any e && e.on == i) && (!T.contains i || T.contains j)) ||
          (T.contains i && decide (j < i) && (ops[i]?.any fun x => x.after.any (fun e => Region.binds .any e && e.on == j))))))
theorem mix_sel {T : List Nat} (h : mixOk ops T = true) : Region.noSelect ops = true := by
  unfold mixOk at h
  simp only [Bool.and_eq_true] at h
  exact h.1
theorem mix_edge {T : List Nat} (h : mixOk ops T = true) {j : Nat} {o : Oper} (ho : ops[j]? = some o) {e : Edge} (he : e ∈ o.after) (hb : Region.binds .any e = true) : e.on < j := by
  unfold mixOk at h
  simp only [Bool.and_eq_true, List.all_eq_true, List.mem_range] at h
  have h1 := h.2 j (Array.getElem?_eq_some_iff.1 ho).1
  simp only [ho, Bool.and_eq_true] at h1
  have := Array.all_eq_true_iff_forall_mem.1 h1.1 e he
  simpa [hb] using this
theorem dst_lt {i : Nat} {t : Tmp} (hi : dstOf ops i = some t) : i < ops.size := by
  unfold dstOf at hi
  rcases Nat.lt_or_ge i ops.size with h' | h'
  · exact h'
  · rw [Array.getElem?_eq_none h'] at hi; cases hi
theorem mix_dst {T : List Nat} (h : mixOk ops T = true) : DstOne ops := by
  intro i j t hi hj
  unfold mixOk at h
  simp only [Bool.and_eq_true, List.all_eq_true, List.mem_range] at h
  have hlt := dst_lt hj
  have ho : ops[j]? = some ops[j] := by simp [hlt]
  have h1 := h.2 j hlt
  simp only [ho, Bool.and_eq_true, List.all_eq_true, List.mem_range] at h1
  have h2 := h1.2 i (dst_lt hi)
  simp only [hi, hj, Bool.and_eq_true, bne_self_eq_false, Bool.or_false, beq_iff_eq] at h2
  exact h2.1
theorem mix_look {T : List Nat} (h : mixOk ops T = true) {j : Nat} {o : Oper} (ho : ops[j]? = some o) {t : Tmp} (ht : t ∈ o.looksAt ops) {i : Nat} (hi : dstOf ops i = some t) :
    (i < j ∧ (∃ e ∈ o.after, Region.binds .any e = true ∧ e.on = i) ∧ (T.contains i = true → T.contains j = true)) ∨
      (T.contains i = true ∧ j < i ∧ ∃ x, ops[i]? = some x ∧ ∃ e ∈ x.after, Region.binds .any e = true ∧ e.on = j) := by
  unfold mixOk at h
  simp only [Bool.and_eq_true, List.all_eq_true, List.mem_range] at h
  have h1 := h.2 j (Array.getElem?_eq_some_iff.1 ho).1
  simp only [ho, Bool.and_eq_true, List.all_eq_true, List.mem_range] at h1
  have h2 := h1.2 i (dst_lt hi)
  simp only [hi, Bool.and_eq_true, Bool.or_eq_true, Bool.not_eq_true', decide_eq_true_eq] at h2
  have hc : (o.looksAt ops).contains t = true := by simpa using ht
  rcases h2.2 with (h3 | ⟨⟨h3, h4⟩, h5⟩) | ⟨⟨h3, h4⟩, h5⟩
  · rw [hc] at h3; cases h3
  · refine .inl ?_
    obtain ⟨e, he, hb⟩ := Array.any_eq_true'.1 h4
    simp only [Bool.and_eq_true, beq_iff_eq] at hb
    refine ⟨h3, ⟨e, he, hb.1, hb.2⟩, fun hT => ?_⟩
    rcases h5 with h5 | h5
    · rw [hT] at h5; cases h5
    · exact h5
  · refine .inr ⟨h3, h4, ?_⟩
    cases hx : ops[i]? with
    | none => rw [hx] at h5; simp at h5
    | some x =>
      rw [hx] at h5
      simp only [Option.any_some] at h5
      obtain ⟨e, he, hb⟩ := Array.any_eq_true'.1 h5
      simp only [Bool.and_eq_true, beq_iff_eq] at hb
      exact ⟨x, rfl, e, he, hb.1, hb.2⟩

/-- the held operations alone, in the order of the text -/
def hX (P : Program) (ops : Array Oper) (S : World → Prop) (T : List Nat) (K : Act → Prop) : Nat → List Oper → Act → Prop
  | _, [], a => K a
  | j, o :: l, a => if T.contains j then hX P ops S T K (j + 1) l a else
      (Region.wanted o (yielded ops a.tmps) = true ∧ ∃ v, (∀ w, S w → Gives P (fun w' => Ext w w') o a w v) ∧ hX P ops S T K (j + 1) l (a.put o.dst v)) ∨
      (Region.wanted o (yielded ops a.tmps) = false ∧ hX P ops S T K (j + 1) l (a.put o.dst undef))

variable {v : Nat → Value} {a0 : Act}
theorem stP_congr {L L' : Nat → Bool} {v v' : Nat → Value} : ∀ k, (∀ i, i < k → L i = L' i) → (∀ i, i < k → L i = true → v i = v' i) → stP ops v a0 L k = stP ops v' a0 L' k
  | 0, _, _ => rfl
  | k + 1, h, hv => by
    unfold stP
    rw [stP_congr k (fun i hi => h i (by omega)) (fun i hi => hv i (by omega)), h k (by omega)]
    split
    · split
      · rename_i hl
        rw [hv k (by omega) (by rw [h k (by omega)]; exact hl)]
      · rfl
    · rfl

theorem stP_defs (tm : Array Value) (ds ds' : List Deferred) (L : Nat → Bool) : ∀ k, stP ops v ⟨tm, ds⟩ L k = ⟨(stP ops v ⟨tm, ds'⟩ L k).tmps, ds⟩
  | 0 => rfl
  | k + 1 => by
    unfold stP
    rw [stP_defs tm ds ds' L k]
    split
    · rename_i o _
      split
      · cases o.dst <;> rfl
      · rfl
    · rfl
def GoodX (P : Program) (ops : Array Oper) (S : World → Prop) (T : List Nat) (v : Nat → Value) (a0 : Act) (j : Nat) (o : Oper) : Prop :=
  (Region.wanted o (yielded ops (stP ops v a0 (fun i => !T.contains i) j).tmps) = true ∧ ∀ w, S w → Gives P (fun w' => Ext w w') o (stP ops v a0 (fun i => !T.contains i) j) w (v j)) ∨
  (Region.wanted o (yielded ops (stP ops v a0 (fun i => !T.contains i) j).tmps) = false ∧ v j = undef)

theorem mix_any {T : List Nat} (hSx : ∀ w w', S w → Ext w w' → S w') (hok : mixOk ops T = true) (H : ∀ j o, ops[j]? = some o → T.contains j = false → GoodX P ops S T v a0 j o) (hR : ∀ a w, R a w → Q .normal a w) :
    ∀ (fuel : Nat) (listed : Array Bool) (w : World) (u : Nat → Value) (f : Nat) (lx : Array Bool) (ds : List Deferred), listed.size = ops.size → lx.size = ops.size → Closed ops listed → listed.toList.count false ≤ fuel →
      (∀ i, T.contains i = false → u i = v i) → (∀ i, i < ops.size → lx.getD i false = (listed.getD i false || !T.contains i)) → S w →
      wpX P ops S R f lx (stP ops u ⟨a0.tmps, ds⟩ (fun i => listed.getD i false || !T.contains i) ops.size) w → wpAny P .any ops Q fuel listed (stP ops u ⟨a0.tmps, ds⟩ (fun i => listed.getD i false) ops.size) w := by
  have hd := mix_dst hok
  intro fuel
  induction fuel with
  | zero =>
    intro listed w u f lx ds hsz hlx hc hf hu hl hE hX
    have hall : ∀ i, i < ops.size → listed.getD i false = true := fun i hi => by
      have h0 : List.count false listed.toList = 0 := by omega
      rw [List.count_eq_zero] at h0
      have hi' : i < listed.size := by omega
      cases hx : listed.getD i false with
      | true => rfl
      | false =>
        exfalso
        apply h0
        have : listed[i] = false := by simpa [hi'] using hx
        rw [← this]
        exact Array.mem_toList_iff.2 (Array.getElem_mem hi')
    have nil : ∀ l : Array Bool, l.size = ops.size → (∀ i, i < ops.size → l.getD i false = true) → Region.ready .any ops l = [] := fun l hs hall => by
      refine List.eq_nil_iff_forall_not_mem.2 fun i hi => ?_
      obtain ⟨h0, o, ho, _⟩ := mem_ready.1 hi
      have hlt := (Array.getElem?_eq_some_iff.1 ho).1
      rw [listed_at hs hlt, hall i hlt] at h0
      cases h0
    have e : stP ops u ⟨a0.tmps, ds⟩ (fun i => listed.getD i false || !T.contains i) ops.size = stP ops u ⟨a0.tmps, ds⟩ (fun i => listed.getD i false) ops.size :=
      stP_congr _ (fun i hi => by rw [hall i hi]; rfl) (fun i _ _ => rfl)
    rw [e] at hX
    have hx := nil lx hlx (fun i hi => by rw [hl i hi, hall i hi]; rfl)
    refine ⟨nil listed hsz hall, hR _ _ ?_⟩
    cases f with
    | zero => exact hX.2 w (Ext.refl w)
    | succ f => exact hX.1 hx w (Ext.refl w)
  | succ fuel ih =>
    intro listed w u f lx ds hsz hlx hc hf hu hl hE hX
    refine ⟨fun h0 => ?_, fun i hi => ?_⟩
    · -- all have come up
      have hall : ∀ i, i < ops.size → listed.getD i false = true := by
        have : ∀ m i, i < m → i < ops.size → listed.getD i false = true := by
          intro m
          induction m with
          | zero => intro i h; omega
          | succ m ihm =>
            intro i him hlt
            cases hx : listed.getD i false with
            | true => rfl
            | false =>
              exfalso
              have hin : i ∈ Region.ready .any ops listed := mem_ready.2 ⟨by rw [listed_at hsz hlt]; exact hx, ops[i], by simp [hlt], fun e he hb => by
                have := mix_edge hok (j := i) (o := ops[i]) (by simp [hlt]) he hb
                exact ihm e.on (by omega) (by omega)⟩
              rw [h0] at hin
              cases hin
        exact fun i hi => this (i + 1) i (by omega) hi
      have e : stP ops u ⟨a0.tmps, ds⟩ (fun i => listed.getD i false || !T.contains i) ops.size = stP ops u ⟨a0.tmps, ds⟩ (fun i => listed.getD i false) ops.size :=
        stP_congr _ (fun i hi => by rw [hall i hi]; rfl) (fun i _ _ => rfl)
      rw [e] at hX
      have hx : Region.ready .any ops lx = [] := by
        refine List.eq_nil_iff_forall_not_mem.2 fun i hi => ?_
        obtain ⟨h0, o, ho, _⟩ := mem_ready.1 hi
        have hlt := (Array.getElem?_eq_some_iff.1 ho).1
        rw [listed_at hlx hlt, hl i hlt, hall i hlt] at h0
        cases h0
      cases f with
      | zero => exact hR _ _ (hX.2 w (Ext.refl w))
      | succ f => exact hR _ _ (hX.1 hx w (Ext.refl w))
    · obtain ⟨h0, o, ho, hafter⟩ := mem_ready.1 hi
      have hlt := (Array.getElem?_eq_some_iff.1 ho).1
      have h0' : listed.getD i false = false := by rw [← listed_at hsz hlt]; exact h0
      have hset : ∀ (l : Array Bool), l.size = ops.size → ∀ j, (l.setIfInBounds i true).getD j false = (l.getD j false || j == i) := fun l hs j => by
        by_cases hij : i = j
        · subst hij; simp [hs, hlt]
        · rw [getD_set_ne false hij]
          have : (j == i) = false := by simpa using fun e => hij e.symm
          rw [this, Bool.or_false]
      have hcount : (listed.setIfInBounds i true).toList.count false ≤ fuel := by
        have hi' : i < listed.toList.length := by simpa [hsz] using hlt
        have hfalse : listed.toList[i] = false := by
          have hi'' : i < listed.size := by omega
          simpa [hi''] using h0
        rw [Array.toList_setIfInBounds, List.count_set hi']
        simp only [hfalse]
        simp
        have : 0 < listed.toList.count false := List.count_pos_iff.2 (by rw [← hfalse]; exact List.getElem_mem hi')
        rw [← Array.count_toList]
        omega
      -- what it looks at is there
      have hlook : ∀ t ∈ o.looksAt ops, ∀ j, dstOf ops j = some t → (j < i ∧ listed.getD j false = true ∧ (T.contains j = true → T.contains i = true)) ∨ (T.contains j = true ∧ listed.getD j false = false) := fun t ht j hj => by
        rcases mix_look hok ho ht hj with ⟨h1, ⟨e, he, hb, rfl⟩, h3⟩ | ⟨h1, h2, x, hx, e, he, hb, hon⟩
        · exact .inl ⟨h1, hafter e he hb, h3⟩
        · refine .inr ⟨h1, ?_⟩
          cases hlj : listed.getD j false with
          | false => rfl
          | true =>
            have := hc j x hx hlj e he hb
            rw [hon, h0'] at this
            cases this
      cases hT : T.contains i with
      | false =>
        have hsame : ∀ t ∈ o.looksAt ops, (stP ops u ⟨a0.tmps, ds⟩ (fun i => listed.getD i false) ops.size).tmps[t]? = (stP ops v a0 (fun i => !T.contains i) i).tmps[t]? := fun t ht => by
          by_cases hx : ∃ j, dstOf ops j = some t
          · obtain ⟨j, hj⟩ := hx
            rcases hlook t ht j hj with ⟨h1, h2, h3⟩ | ⟨h1, h2⟩
            · have hn : T.contains j = false := by
                cases h : T.contains j with
                | false => rfl
                | true => have := h3 h; rw [hT] at this; cases this
              rw [stP_some hj h2 (fun k hk => hd k j t hk hj) _ (dst_lt hj), stP_some hj (by rw [hn]; rfl) (fun k hk => hd k j t hk hj) _ h1, hu j hn]
            · rw [stP_none _ (fun k _ hl' hk => by
                rw [hd k j t hk hj, h2] at hl'; cases hl'), stP_none _ (fun k _ hl' hk => by
                rw [hd k j t hk hj, h1] at hl'; cases hl')]
          · rw [stP_none _ (fun j _ _ hj => hx ⟨j, hj⟩), stP_none _ (fun j _ _ hj => hx ⟨j, hj⟩)]
        have hev := same_eval (Region.noSelect_spec (mix_sel hok) i o · · ho) hsame
        have hwa := same_wanted (ops := ops) hsame
        have next : ∀ w', Ext w w' → wpAny P .any ops Q fuel (listed.setIfInBounds i true) ((stP ops u ⟨a0.tmps, ds⟩ (fun i => listed.getD i false) ops.size).put o.dst (v i)) w' := fun w' hx => by
          rw [← hu i hT, stP_put hd ho (L' := fun j => (listed.setIfInBounds i true).getD j false) (hset listed hsz)]
          refine ih _ w' u f lx ds (by simpa using hsz) hlx (closed_set hc hi) hcount hu (fun j hj => ?_) (hSx _ _ hE hx) ?_
          · rw [hl j hj, hset listed hsz]
            by_cases hji : j = i
            · subst hji; rw [hT]; cases listed.getD j false <;> simp
            · rw [show (j == i) = false by simpa using hji, Bool.or_false]
          · have e : stP ops u ⟨a0.tmps, ds⟩ (fun j => (listed.setIfInBounds i true).getD j false || !T.contains j) ops.size = stP ops u ⟨a0.tmps, ds⟩ (fun i => listed.getD i false || !T.contains i) ops.size :=
              stP_congr _ (fun j hj => by
                rw [hset listed hsz]
                by_cases hji : j = i
                · subst hji; rw [hT]; cases listed.getD j false <;> simp
                · rw [show (j == i) = false by simpa using hji, Bool.or_false]) (fun i _ _ => rfl)
            rw [e]
            exact wpX_ext hX hx
        unfold wpOp
        simp only [ho]
        rcases H i o ho hT with ⟨hw, hg⟩ | ⟨hw, hu'⟩
        · rw [hwa, hw, if_pos rfl]
          refine .inl ?_
          have hg := hg w hE
          unfold Gives at hg
          rw [← hev] at hg
          exact gives_wp (S := fun w' => Ext w w') (by unfold Gives; exact hg) next
        · rw [hwa, hw]
          simp only [Bool.false_eq_true, if_false]
          rw [← hu']
          exact next w (Ext.refl w)
      | true =>
        have hlxi : lx.getD i false = false := by rw [hl i hlt, h0', hT]; rfl
        have hin : i ∈ Region.ready .any ops lx := mem_ready.2 ⟨by rw [listed_at hlx hlt]; exact hlxi, o, ho, fun e he hb => by
          have h1 := hafter e he hb
          have := mix_edge hok ho he hb
          rw [hl _ (by omega), h1]; rfl⟩
        cases f with
        | zero => rw [hX.1] at hin; cases hin
        | succ f =>
          have hstep := hX.2 i hin w (Ext.refl w)
          have hsame : ∀ t ∈ o.looksAt ops, (stP ops u ⟨a0.tmps, ds⟩ (fun i => listed.getD i false) ops.size).tmps[t]? = (stP ops u ⟨a0.tmps, ds⟩ (fun i => listed.getD i false || !T.contains i) ops.size).tmps[t]? := fun t ht =>
            stP_look hd fun j hj => by
              rcases hlook t ht j hj with ⟨_, h2, _⟩ | ⟨h1, h2⟩
              · rw [h2]; rfl
              · rw [h1, h2]; rfl
          have hev := same_eval (Region.noSelect_spec (mix_sel hok) i o · · ho) hsame
          have hwa := same_wanted (ops := ops) hsame
          have next : ∀ (ds : List Deferred) (x : Value) (w' : World), S w' → wpX P ops S R f (lx.setIfInBounds i true) ((stP ops u ⟨a0.tmps, ds⟩ (fun i => listed.getD i false || !T.contains i) ops.size).put o.dst x) w' →
              wpAny P .any ops Q fuel (listed.setIfInBounds i true) ((stP ops u ⟨a0.tmps, ds⟩ (fun i => listed.getD i false) ops.size).put o.dst x) w' := fun ds x w' hE' hx => by
            have c1 : ∀ L : Nat → Bool, L i = false → stP ops u ⟨a0.tmps, ds⟩ L ops.size = stP ops (fun j => if j = i then x else u j) ⟨a0.tmps, ds⟩ L ops.size := fun L hL =>
              stP_congr _ (fun _ _ => rfl) (fun j _ hj => by
                by_cases hji : j = i
                · subst hji; rw [hL] at hj; cases hj
                · simp [hji])
            have p1 : ∀ L L' : Nat → Bool, L i = false → (∀ j, L' j = (L j || j == i)) → (stP ops u ⟨a0.tmps, ds⟩ L ops.size).put o.dst x = stP ops (fun j => if j = i then x else u j) ⟨a0.tmps, ds⟩ L' ops.size := fun L L' hL hL' => by
              rw [c1 L hL]
              have := stP_put (v := fun j => if j = i then x else u j) (a0 := ⟨a0.tmps, ds⟩) hd ho hL'
              simp only [if_true] at this
              exact this
            rw [p1 (fun i => listed.getD i false) (fun j => (listed.setIfInBounds i true).getD j false) h0' (hset listed hsz)]
            rw [p1 (fun i => listed.getD i false || !T.contains i) (fun j => (listed.setIfInBounds i true).getD j false || !T.contains j) (by rw [h0', hT]; rfl) (fun j => by rw [hset listed hsz]; cases listed.getD j false <;> cases T.contains j <;> cases (j == i) <;> rfl)] at hx
            refine ih _ w' _ f (lx.setIfInBounds i true) ds (by simpa using hsz) (by simpa using hlx) (closed_set hc hi) hcount (fun j hj => ?_) (fun j hj => ?_) hE' hx
            · have : j ≠ i := fun e => by subst e; rw [hT] at hj; cases hj
              simp [this, hu j hj]
            · rw [hset lx hlx, hset listed hsz, hl j hj]
              cases listed.getD j false <;> cases T.contains j <;> cases (j == i) <;> rfl
          unfold wpOp at hstep ⊢
          simp only [ho] at hstep ⊢
          rw [hwa]
          split
          · rename_i hw
            rw [if_pos hw] at hstep
            rcases hstep with hs | ⟨_, a, w, hq⟩
            · refine .inl ?_
              unfold Oper.wp at hs ⊢
              rw [hev]
              generalize (execOp (stP ops u ⟨a0.tmps, ds⟩ (fun i => listed.getD i false || !T.contains i) ops.size).eval o).run P w = r at hs
              cases r with
              | ok n w' =>
                cases n <;> simp only [Oper.upon] at hs ⊢
                case value x => exact next ds x w' hs.1 hs.2
                case skip => exact next ds undef w' hs.1 hs.2
                case defer d =>
                  have e : ∀ L, ({ stP ops u ⟨a0.tmps, ds⟩ L ops.size with defers := d :: (stP ops u ⟨a0.tmps, ds⟩ L ops.size).defers } : Act) = stP ops u ⟨a0.tmps, d :: ds⟩ L ops.size := fun L => by
                    rw [stP_defs a0.tmps (d :: ds) ds L, stP_defers]
                  rw [e] at hs ⊢
                  exact next (d :: ds) undef w' hs.1 hs.2
                case enter g args =>
                  refine Calls.mono hs fun e w'' he => ?_
                  cases e with
                  | returned x => exact next ds x w'' he.1 he.2
                  | panicked c => exact he.elim
                  | outgrown => obtain ⟨a, w, hq⟩ := he; exact hq.elim
                case row row args => exact Rows.mono hs fun x w'' he => next ds x w'' he.1 he.2
              | halt x w' => cases x <;> simp only [Oper.upon] at hs ⊢ <;> exact hs.elim
            · exact hq.elim
          · rename_i hw
            rw [if_neg hw] at hstep
            exact next ds undef w hstep.1 hstep.2
theorem hX_spec {T : List Nat} {K : Act → Prop} : ∀ (l : List Oper) (j : Nat) (a : Act) (v0 : Nat → Value), l = ops.toList.drop j → a = stP ops v0 a0 (fun i => !T.contains i) j → hX P ops S T K j l a →
    ∃ v : Nat → Value, (∀ i, i < j → v i = v0 i) ∧ K (stP ops v a0 (fun i => !T.contains i) ops.size) ∧ ∀ i o, j ≤ i → ops[i]? = some o → T.contains i = false → GoodX P ops S T v a0 i o
  | [], j, a, v0, hl, ha, h => by
    have hj : ops.size ≤ j := by
      have := congrArg List.length hl
      simp at this
      omega
    have e : stP ops v0 a0 (fun i => !T.contains i) j = stP ops v0 a0 (fun i => !T.contains i) ops.size := by
      have : ∀ d, stP ops v0 a0 (fun i => !T.contains i) (ops.size + d) = stP ops v0 a0 (fun i => !T.contains i) ops.size := by
        intro d
        induction d with
        | zero => rfl
        | succ d ih =>
          rw [← Nat.add_assoc, ← ih]
          generalize hm : ops.size + d = m
          have : ops[m]? = none := by rw [← hm]; simp
          simp only [stP, this]
      have := this (j - ops.size)
      rwa [show ops.size + (j - ops.size) = j by omega] at this
    refine ⟨v0, fun _ _ => rfl, by rw [← e, ← ha]; exact h, fun i o hi ho _ => ?_⟩
    have := (Array.getElem?_eq_some_iff.1 ho).1
    omega
  | o :: l, j, a, v0, hl, ha, h => by
    have hj : j < ops.size := by
      have := congrArg List.length hl
      simp at this
      omega
    have hd : ops.toList.drop j = ops[j] :: ops.toList.drop (j + 1) := by
      rw [List.drop_eq_getElem_cons (by simpa using hj)]
      simp
    rw [hd] at hl
    obtain ⟨ho0, hl2⟩ := List.cons.inj hl
    clear hl
    subst ho0
    have hoj : ops[j]? = some ops[j] := by simp [hj]
    unfold hX at h
    cases hT : T.contains j with
    | true =>
      rw [hT, if_pos rfl] at h
      obtain ⟨v, h1, h2, h3⟩ := hX_spec l (j + 1) a v0 hl2 (by rw [ha]; simp only [stP, hoj, hT, Bool.not_true, Bool.false_eq_true, if_false]) h
      refine ⟨v, fun i hi => h1 i (by omega), h2, fun i o hi ho hTi => h3 i o ?_ ho hTi⟩
      rcases Nat.eq_or_lt_of_le hi with rfl | h
      · rw [hT] at hTi; cases hTi
      · exact h
    | false =>
      rw [hT] at h
      simp only [Bool.false_eq_true, if_false] at h
      have fin : ∀ u, hX P ops S T K (j + 1) l (a.put ops[j].dst u) → (∀ v : Nat → Value, (∀ i, i < j → v i = v0 i) → v j = u → GoodX P ops S T v a0 j ops[j]) →
          ∃ v : Nat → Value, (∀ i, i < j → v i = v0 i) ∧ K (stP ops v a0 (fun i => !T.contains i) ops.size) ∧ ∀ i o, j ≤ i → ops[i]? = some o → T.contains i = false → GoodX P ops S T v a0 i o := fun u h hg => by
        obtain ⟨v, h1, h2, h3⟩ := hX_spec l (j + 1) _ (fun i => if i = j then u else v0 i) hl2 (by
          rw [ha]
          simp only [stP, hoj, hT, Bool.not_false, if_true]
          congr 1
          exact stP_congr j (fun _ _ => rfl) (fun i hi _ => by rw [if_neg (by omega)])) h
        have hb : ∀ i, i < j → v i = v0 i := fun i hi => by rw [h1 i (by omega), if_neg (by omega)]
        refine ⟨v, hb, h2, fun i o hi ho hTi => ?_⟩
        rcases Nat.eq_or_lt_of_le hi with rfl | hi
        · rw [hoj] at ho
          cases ho
          exact hg v hb (by rw [h1 j (by omega), if_pos rfl])
        · exact h3 i o hi ho hTi
      have es : ∀ v : Nat → Value, (∀ i, i < j → v i = v0 i) → stP ops v a0 (fun i => !T.contains i) j = a := fun v hv => by
        rw [ha]
        exact stP_congr j (fun _ _ => rfl) (fun i hi _ => hv i hi)
      rcases h with ⟨hw, u, hg, h⟩ | ⟨hw, h⟩
      · exact fin u h fun v hv hvj => .inl (by rw [es v hv]; exact ⟨hw, fun w hE => by rw [hvj]; exact hg w hE⟩)
      · exact fin undef h fun v hv hvj => .inr (by rw [es v hv]; exact ⟨hw, hvj⟩)

def lxOf (n : Nat) (T : List Nat) : Array Bool := ((List.range n).map fun i => !T.contains i).toArray
theorem wp_region_mix {id : Nat} {T : List Nat} {a : Act} {w W : World} (hSx : ∀ w w', S w → Ext w w' → S w') (hm : P.follows .mixedOrders = true) (hok : mixOk ops T = true) (hx : Ext W w.drew) (hS : S W) (hR : ∀ a w, R a w → Q .normal a w)
    (h : ∀ K : Act → Prop, (∀ a', wpX P ops S R T.length (lxOf ops.size T) a' W → K a') → hX P ops S T K 0 ops.toList a) : (Code.region id ops true).wp P Q a w := by
  obtain ⟨v, _, hK, hG⟩ := hX_spec (a0 := a) (v0 := fun _ => undef) ops.toList 0 a (by simp) rfl (h _ fun _ h => h)
  refine wp_region_any hm ?_
  have e0 : stP ops v ⟨a.tmps, a.defers⟩ (fun i => (Array.replicate ops.size false).getD i false) ops.size = a := by
    refine act_ext (fun t => stP_none _ (fun i hi hl => ?_)) (stP_defers _)
    simp [hi] at hl
  have := mix_any (P := P) (Q := Q) (S := S) (R := R) (v := v) (a0 := a) (T := T) hSx hok (fun j o ho hT => hG j o (Nat.zero_le _) ho hT) hR ops.size (Array.replicate ops.size false) { w with drawn := w.drawn + 1 } v T.length (lxOf ops.size T) a.defers
    (by simp) (by simp [lxOf]) ?_ (by simp) (fun _ _ => rfl) (fun i hi => by simp [lxOf, hi]) (hSx _ _ hS hx) ?_
  · rw [e0] at this
    exact this
  · intro j o ho hl
    have hlt := (Array.getElem?_eq_some_iff.1 ho).1
    simp [hlt] at hl
  · have e : stP ops v ⟨a.tmps, a.defers⟩ (fun i => (Array.replicate ops.size false).getD i false || !T.contains i) ops.size = stP ops v a (fun i => !T.contains i) ops.size :=
      stP_congr _ (fun i hi => by simp [hi]) (fun _ _ _ => rfl)
    rw [e]
    exact wpX_ext hK hx

/-- what is left behind the region: two numbers that the order chooses (one; one and a value) -/
theorem wp_region_mix2 {id : Nat} {T : List Nat} {a : Act} {w W : World} (G : Nat → Nat → World → Prop) {F : Nat → Nat → Act} (hSx : ∀ w w', S w → Ext w w' → S w') (hm : P.follows .mixedOrders = true) (hok : mixOk ops T = true) (hx : Ext W w.drew) (hS : S W)
    (h : ∀ K : Act → Prop, (∀ a', wpX P ops S (fun a w => ∃ g g', a = F g g' ∧ G g g' w) T.length (lxOf ops.size T) a' W → K a') → hX P ops S T K 0 ops.toList a) (hR : ∀ g g' w, G g g' w → Q .normal (F g g') w) : (Code.region id ops true).wp P Q a w :=
  wp_region_mix hSx hm hok hx hS (fun _ w ⟨g, g', e, h⟩ => e ▸ hR g g' w h) h
theorem wp_region_mix1 {id : Nat} {T : List Nat} {a : Act} {w W : World} (G : Nat → World → Prop) {F : Nat → Act} (hSx : ∀ w w', S w → Ext w w' → S w') (hm : P.follows .mixedOrders = true) (hok : mixOk ops T = true) (hx : Ext W w.drew) (hS : S W)
    (h : ∀ K : Act → Prop, (∀ a', wpX P ops S (fun a w => ∃ g, a = F g ∧ G g w) T.length (lxOf ops.size T) a' W → K a') → hX P ops S T K 0 ops.toList a) (hR : ∀ g w, G g w → Q .normal (F g) w) : (Code.region id ops true).wp P Q a w :=
  wp_region_mix hSx hm hok hx hS (fun _ w ⟨g, e, h⟩ => e ▸ hR g w h) h
theorem wp_region_mixV {id : Nat} {T : List Nat} {a : Act} {w W : World} (G : Nat → Value → World → Prop) {F : Nat → Value → Act} (hSx : ∀ w w', S w → Ext w w' → S w') (hm : P.follows .mixedOrders = true) (hok : mixOk ops T = true) (hx : Ext W w.drew) (hS : S W)
    (h : ∀ K : Act → Prop, (∀ a', wpX P ops S (fun a w => ∃ g v, a = F g v ∧ G g v w) T.length (lxOf ops.size T) a' W → K a') → hX P ops S T K 0 ops.toList a) (hR : ∀ g v w, G g v w → Q .normal (F g v) w) : (Code.region id ops true).wp P Q a w :=
  wp_region_mix hSx hm hok hx hS (fun _ w ⟨g, v, e, h⟩ => e ▸ hR g v w h) h

section
variable {T : List Nat} {K : Act → Prop} {o : Oper} {l : List Oper} {a : Act} {u : Value} {g j : Nat} {f : FuncId} {args : Array Value}
theorem hX_skip (hT : T.contains j = true) (h : hX P ops S T K (j + 1) l a) : hX P ops S T K j (o :: l) a := by unfold hX; rw [hT, if_pos rfl]; exact h
theorem hX_of (hT : T.contains j = false) (h : (Region.wanted o (yielded ops a.tmps) = true ∧ ∃ v, (∀ w, S w → Gives P (fun w' => Ext w w') o a w v) ∧ hX P ops S T K (j + 1) l (a.put o.dst v)) ∨
      (Region.wanted o (yielded ops a.tmps) = false ∧ hX P ops S T K (j + 1) l (a.put o.dst undef))) : hX P ops S T K j (o :: l) a := by unfold hX; rw [hT]; exact h
theorem hX_val (hT : T.contains j = false) (hv : ∀ w, S w → (execOp a.eval o).run P w = .ok (.value u) w) (hg : o.guard = none) (h : hX P ops S T K (j + 1) l (a.put o.dst u)) : hX P ops S T K j (o :: l) a :=
  hX_of hT (.inl ⟨by simp [Region.wanted, hg], u, fun w hS => by unfold Gives; rw [hv w hS]; exact ⟨rfl, Ext.refl w⟩, h⟩)
theorem hX_call (hT : T.contains j = false) (hg : o.guard = none) (hv : ∀ w, S w → (execOp a.eval o).run P w = .ok (.enter f args) w) (hc : ∀ w, S w → Calls P f args w fun e w' => e = .returned u ∧ Ext w w')
    (h : hX P ops S T K (j + 1) l (a.put o.dst u)) : hX P ops S T K j (o :: l) a :=
  hX_of hT (.inl ⟨by simp [Region.wanted, hg], u, fun w hS => by unfold Gives; rw [hv w hS]; exact hc w hS, h⟩)
theorem hX_off {want : Bool} (hT : T.contains j = false) (hg : o.guard = some (g, want)) (hy : yielded ops a.tmps g = some (!want)) (h : hX P ops S T K (j + 1) l (a.put o.dst undef)) : hX P ops S T K j (o :: l) a :=
  hX_of hT (.inr ⟨by simp [Region.wanted, hg, hy], h⟩)
theorem hX_if {b want : Bool} (hT : T.contains j = false) (hg : o.guard = some (g, want)) (hy : yielded ops a.tmps g = some b) (hv : b = want → ∀ w, S w → (execOp a.eval o).run P w = .ok (.value u) w)
    (h : hX P ops S T K (j + 1) l (a.put o.dst (bif b == want then u else undef))) : hX P ops S T K j (o :: l) a := by
  refine hX_of hT ?_
  by_cases hb : b = want
  · subst hb
    simp only [beq_self_eq_true, cond_true] at h
    exact .inl ⟨by simp [Region.wanted, hg, hy], u, fun w hS => by unfold Gives; rw [hv rfl w hS]; exact ⟨rfl, Ext.refl w⟩, h⟩
  · have : (b == want) = false := by simpa using hb
    rw [this] at h
    exact .inr ⟨by simp [Region.wanted, hg, hy, hb], h⟩
theorem hX_ifcall {b want : Bool} (hT : T.contains j = false) (hg : o.guard = some (g, want)) (hy : yielded ops a.tmps g = some b) (hv : b = want → ∀ w, S w → (execOp a.eval o).run P w = .ok (.enter f args) w)
    (hc : b = want → ∀ w, S w → Calls P f args w fun e w' => e = .returned u ∧ Ext w w')
    (h : hX P ops S T K (j + 1) l (a.put o.dst (bif b == want then u else undef))) : hX P ops S T K j (o :: l) a := by
  refine hX_of hT ?_
  by_cases hb : b = want
  · subst hb
    simp only [beq_self_eq_true, cond_true] at h
    exact .inl ⟨by simp [Region.wanted, hg, hy], u, fun w hS => by unfold Gives; rw [hv rfl w hS]; exact hc rfl w hS, h⟩
  · have : (b == want) = false := by simpa using hb
    rw [this] at h
    exact .inr ⟨by simp [Region.wanted, hg, hy, hb], h⟩
theorem hX_and {c x : Operand} {p q : Bool} (hT : T.contains j = false) (hg : o.guard = none) (ho : o.op = .pick c x (.const (.bool false))) (hc : a.eval c = .bool p) (hx : a.eval x = bif p == true then .bool q else undef)
    (h : hX P ops S T K (j + 1) l (a.put o.dst (.bool (p && q)))) : hX P ops S T K j (o :: l) a := by
  refine hX_val (u := .bool (p && q)) hT (fun w hS => ?_) hg h
  obtain ⟨dst, op, type, pos, after, guard⟩ := o
  simp only at ho
  subst ho
  cases p <;> simp_all [execOp, Act.eval, go_sem]
theorem hX_or {c y : Operand} {p q : Bool} (hT : T.contains j = false) (hg : o.guard = none) (ho : o.op = .pick c (.const (.bool true)) y) (hc : a.eval c = .bool p) (hy : a.eval y = bif p == false then .bool q else undef)
    (h : hX P ops S T K (j + 1) l (a.put o.dst (.bool (p || q)))) : hX P ops S T K j (o :: l) a := by
  refine hX_val (u := .bool (p || q)) hT (fun w hS => ?_) hg h
  obtain ⟨dst, op, type, pos, after, guard⟩ := o
  simp only at ho
  subst ho
  cases p <;> simp_all [execOp, Act.eval, go_sem]
theorem hX_nil {T : List Nat} {K : Act → Prop} (h : K a) : hX P ops S T K j [] a := h
end
theorem Ext.mono (W : World) : ∀ w w', Ext W w → Ext w w' → Ext W w' := fun _ _ h k => h.trans k
theorem callXX {P : Program} {f : FuncId} {args : Array Value} {w : World} {u : Value} (h : Calls P f args w fun e w' => e = .returned u ∧ Below w.heap.size w w') : Calls P f args w fun e w' => e = .returned u ∧ Ext w w' :=
  h.mono fun _ _ ⟨he, hb⟩ => ⟨he, ⟨hb⟩⟩
end
end Go.Proofs.Ytlaflbepidkmnaa
