/- Small words for all walks: what a slice reads as, and how that stays. -/
import Derived.Laws.StructEq
import Derived.ScopeJumps
import Derived.WalkMore
import Derived.WalkKit
import Derived.WalkSpells
import Derived.WalkLawsBesides
import Derived.Lib.Hide
import Derived.Lib.SmallJoins
import Derived.Lib.ConvBytes
namespace Go.Proofs.YtniejidekflmiaaGreatDoor
open Go.RowKit
set_option linter.unusedSimpArgs false

theorem ri {k : IntKind} {a b : Int} (h : a = b) : Ending.returned (.int k a) = .returned (.int k b) := by rw [h]
theorem rb {a b : Bool} (h : a = b) : Ending.returned (.bool a) = .returned (.bool b) := by rw [h]

/-- The text whose bytes these are. -/
def str (l : List UInt8) : ByteArray := ⟨l.toArray⟩
theorem str_size (l : List UInt8) : (str l).size = l.length := rfl
theorem str_list (l : List UInt8) : (str l).data.toList = l := rfl
theorem str_of (s : ByteArray) : str s.data.toList = s := rfl
theorem list_size (s : ByteArray) : s.data.toList.length = s.size := by rw [Array.length_toList]; rfl
theorem str_inj {a b : List UInt8} : str a = str b ↔ a = b := ⟨fun h => by have := congrArg (fun s : ByteArray => s.data.toList) h; exact this, fun h => by rw [h]⟩
theorem ba_ext {a b : ByteArray} (h : a.data.toList = b.data.toList) : a = b := by rw [← str_of a, ← str_of b, h]
theorem extract_list (s : ByteArray) (a b : Nat) : (s.extract a b).data.toList = (s.data.toList.take b).drop a := by
  rw [ByteArray.data_extract, Array.toList_extract, List.extract_eq_take_drop, List.drop_take]
theorem extract_to_end (s : ByteArray) (a : Nat) : (s.extract a s.size).data.toList = s.data.toList.drop a := by
  rw [extract_list, List.take_of_length_le (by rw [list_size]; exact Nat.le_refl _)]
theorem extract_from (s : ByteArray) (b : Nat) : (s.extract 0 b).data.toList = s.data.toList.take b := by
  rw [extract_list]; rfl

theorem getD_at {α : Type} {l : List α} {k : Nat} (h : k < l.length) (d : α) : l.getD k d = l[k] := by
  simp only [List.getD, List.getElem?_eq_getElem h, Option.getD_some]
/-- What was there stays, where F says. -/
def Keeps (F : Nat → Prop) (w w' : World) : Prop := ∀ k, F k → k < w.heap.size → w'.heap[k]? = w.heap[k]?
theorem Keeps.below {w w' : World} (h : Below w.heap.size w w') (F : Nat → Prop) : Keeps F w w' := fun k _ hk => h.block k hk
theorem Keeps.cell {F : Nat → Prop} {w w' : World} (h : Keeps F w w') {b o : Nat} {v : Value} (hF : F b) (hc : w.cell? ⟨b, o, none⟩ = some v) : w'.cell? ⟨b, o, none⟩ = some v := by
  have hb : b < w.heap.size := World.block_lt_of_cell? w ⟨b, o, none⟩ hc
  rw [World.cell?_of_block (w := w) (h b hF hb)]
  exact hc

/-- The slice v reads as xs in w; each element by R; all its blocks lie in F. -/
def SlR {α : Type} (R : World → Nat → Nat → α → Prop) (sz : Nat) (F : Nat → Prop) (w : World) (v : Value) (xs : List α) : Prop :=
  ∃ A c, v = .slice A xs.length c ∧ xs.length ≤ c ∧ c ≤ maxLen ∧ (xs ≠ [] → ∃ b o, A = some ⟨b, o, none⟩ ∧ F b ∧ ∀ i (h : i < xs.length), R w b (o + i * sz) xs[i])

theorem SlR.keep {α : Type} {R R' : World → Nat → Nat → α → Prop} {sz : Nat} {F F' : Nat → Prop} {w w' : World} {v : Value} {xs : List α}
    (h : SlR R sz F w v xs) (hF : ∀ b, F b → F' b) (hR : ∀ b o x, x ∈ xs → F b → R w b o x → R' w' b o x) : SlR R' sz F' w' v xs := by
  obtain ⟨A, c, rfl, h1, h2, h3⟩ := h
  refine ⟨A, c, rfl, h1, h2, fun hne => ?_⟩
  obtain ⟨b, o, e, hb, hx⟩ := h3 hne
  exact ⟨b, o, e, hF b hb, fun i hi => hR _ _ _ (List.getElem_mem hi) hb (hx i hi)⟩

theorem SlR.to {α : Type} {R : World → Nat → Nat → α → Prop} {sz : Nat} {F : Nat → Prop} {w w' : World} {v : Value} {xs : List α} (h : SlR R sz F w v xs) (hR : ∀ b o x, R w b o x → R w' b o x) : SlR R sz F w' v xs :=
  h.keep (fun _ h => h) (fun b o x _ _ k => hR b o x k)
theorem SlR.nil {α : Type} (R : World → Nat → Nat → α → Prop) (sz : Nat) (F : Nat → Prop) (w : World) : SlR R sz F w (.slice none 0 0) [] :=
  ⟨none, 0, rfl, Nat.le_refl _, Nat.zero_le _, fun h => absurd rfl h⟩

/-- one cell a number -/
def IntR (k : IntKind) : World → Nat → Nat → Int → Prop := fun w b o x => w.cell? ⟨b, o, none⟩ = some (.int k x)
def StrR : World → Nat → Nat → ByteArray → Prop := fun w b o x => w.cell? ⟨b, o, none⟩ = some (.string x)
def BoolR : World → Nat → Nat → Bool → Prop := fun w b o x => w.cell? ⟨b, o, none⟩ = some (.bool x)
theorem IntR.keep {k : IntKind} {F : Nat → Prop} {w w' : World} (h : Keeps F w w') {b o : Nat} {x : Int} (hb : F b) (hx : IntR k w b o x) : IntR k w' b o x := h.cell hb hx
theorem StrR.keep {F : Nat → Prop} {w w' : World} (h : Keeps F w w') {b o : Nat} {x : ByteArray} (hb : F b) (hx : StrR w b o x) : StrR w' b o x := h.cell hb hx
theorem BoolR.keep {F : Nat → Prop} {w w' : World} (h : Keeps F w w') {b o : Nat} {x : Bool} (hb : F b) (hx : BoolR w b o x) : BoolR w' b o x := h.cell hb hx

/-- everything -/
def Any : Nat → Prop := fun _ => True

/-- A row of the call's own, each element written by enc, reads as xs. -/
theorem SlR.of_own {α : Type} {R : World → Nat → Nat → α → Prop} {sz : Nat} {F : Nat → Prop} {w : World} {v : Value} {xs : List α} {base : Nat} {e : TypeId} {enc : α → List Value}
    (hsz : ∀ x, (enc x).length = sz) (h : w.ownsRow base e sz v xs.length (xs.flatMap enc)) (hF : ∀ b, base ≤ b → b < w.heap.size → F b)
    (hR : ∀ b o x, x ∈ xs → (∀ j u, (enc x)[j]? = some u → w.cell? ⟨b, o + j, none⟩ = some u) → R w b o x) : SlR R sz F w v xs := by
  rcases h.2 with ⟨rfl, hn⟩ | ⟨g, cap, cur, rfl, hb, hh, hc1, hc2, _, _⟩
  · obtain rfl : xs = [] := List.length_eq_zero_iff.1 hn
    exact SlR.nil _ _ _ _
  · refine ⟨_, cap, rfl, hc1, hc2, fun hne => ⟨g, 0, rfl, hF g hb (Array.getElem?_eq_some_iff.1 hh).1, fun i hi => hR _ _ _ (List.getElem_mem hi) fun j u hu => ?_⟩⟩
    have hj : j < sz := by
      have := (List.getElem?_eq_some_iff.1 hu).1
      rw [hsz] at this; exact this
    have hget : (xs.flatMap enc)[i * sz + j]? = some u := by
      have : ∀ (ys : List α) (i : Nat) (hi : i < ys.length), (ys.flatMap enc)[i * sz + j]? = (enc ys[i])[j]? := by
        intro ys
        induction ys with
        | nil => intro i hi; simp at hi
        | cons y ys ih =>
          intro i hi
          cases i with
          | zero =>
            rw [List.flatMap_cons, List.getElem?_append_left (by rw [hsz]; omega)]
            simp
          | succ i =>
            rw [List.flatMap_cons, List.getElem?_append_right (by rw [hsz, Nat.add_mul]; omega), hsz, show (i + 1) * sz + j - sz = i * sz + j by rw [Nat.add_mul]; omega]
            simp only [List.getElem_cons_succ]
            exact ih i (by simpa using hi)
      rw [this xs i hi]; exact hu
    have := h.cells (g := g) rfl (i * sz + j) u hget
    have e : ((⟨g, 0, none⟩ : Addr).add (i * sz + j)) = ⟨g, 0 + i * sz + j, none⟩ := by
      unfold Addr.add
      split
      · rename_i h0
        simp
      · simp
    rw [e] at this
    exact this

theorem own_nil (w : World) (base : Nat) (e : TypeId) (size : Nat) : w.ownsRow base e size (.slice none 0 0) 0 [] := ⟨by simp, .inl ⟨rfl, rfl⟩⟩
theorem own_below {w w1 : World} {base : Nat} {e : TypeId} {size n : Nat} {v : Value} {xs : List Value} (h : w.ownsRow base e size v n xs) (hb : Below w.heap.size w w1) : w1.ownsRow base e size v n xs :=
  h.kept ⟨hb.os, hb.tape, hb.output, hb.size, fun i hi _ => hb.block i hi⟩ (by cases v.ownBlock <;> simp) (row := none)
theorem own_lt {w : World} {base : Nat} {e : TypeId} {size n : Nat} {v : Value} {xs : List Value} (h : w.ownsRow base e size v n xs) (k : Nat) (hk : v.ownBlock = some k) : base ≤ k ∧ k < w.heap.size := h.lt k hk

/-- Block g is the row cs of type t, not frozen. -/
def Blk (w : World) (g : Nat) (cs : Array Value) (t : TypeId) : Prop := w.heap[g]? = some (.cells cs t (0, 0))
theorem Blk.cell {w : World} {g : Nat} {t : TypeId} {cs : Array Value} (h : Blk w g cs t) (i : Nat) : w.cell? ⟨g, i, none⟩ = cs[i]? := by
  unfold Blk at h; simp [World.cell?, h]
theorem Blk.free {w : World} {g : Nat} {t : TypeId} {cs : Array Value} (h : Blk w g cs t) (i : Nat) : w.frozen? ⟨g, i, none⟩ = false := by
  unfold Blk at h; simp [World.frozen?, h]
theorem Blk.lt {w : World} {g : Nat} {t : TypeId} {cs : Array Value} (h : Blk w g cs t) : g < w.heap.size := (Array.getElem?_eq_some_iff.1 h).1
theorem Blk.set {w : World} {g : Nat} {t : TypeId} {cs : Array Value} (h : Blk w g cs t) (i : Nat) (u : Value) : Blk (w.setCell ⟨g, i, none⟩ u) g (cs.setIfInBounds i u) t := by
  unfold Blk at h ⊢; simp [World.setCell, Array.getElem?_modify, h]
theorem Blk.far {w : World} {g : Nat} {t : TypeId} {cs : Array Value} (h : Blk w g cs t) {p : Addr} (hp : g ≠ p.block) (u : Value) : Blk (w.setCell p u) g cs t :=
  (Below.heap_setCell w p u g hp).trans h
theorem Blk.alloc {w : World} {g : Nat} {t : TypeId} {cs : Array Value} (h : Blk w g cs t) (o : Obj) : Blk (w.alloc o) g cs t := (Below.heap_alloc w o g h.lt).trans h
theorem Blk.drew {w : World} {g : Nat} {t : TypeId} {cs : Array Value} (h : Blk w g cs t) : Blk w.drew g cs t := h
theorem Blk.drewN {w : World} {g : Nat} {t : TypeId} {cs : Array Value} (h : Blk w g cs t) (n : Nat) : Blk (w.drewN n) g cs t := h
theorem Blk.below {w w1 : World} {B g : Nat} {t : TypeId} {cs : Array Value} (h : Blk w g cs t) (hb : Below B w w1) (hg : g < B) : Blk w1 g cs t := (hb.block g hg).trans h
theorem Blk.new (w : World) (cs : Array Value) (t : TypeId) : Blk (w.alloc (.cells cs t)) w.heap.size cs t := by
  show (w.heap.push _)[w.heap.size]? = _
  simp
theorem Blk.new_at (w : World) (cs : Array Value) (t : TypeId) (g : Nat) (hg : g = w.heap.size) : Blk (w.alloc (.cells cs t)) g cs t := by rw [hg]; exact Blk.new w cs t
theorem Blk.grown {w w1 : World} {g : Nat} {t : TypeId} {cs : Array Value} {row : Option Nat} (h : Blk w g cs t) (hg : w.grownBy w1 row) (hne : row ≠ some g) : Blk w1 g cs t :=
  (hg.block g h.lt (fun e => hne e.symm)).trans h
theorem Blk.bytes {w : World} {g : Nat} {t : TypeId} {cs : Array Value} (h : Blk w g cs t) (e : TypeId) (s : ByteArray) : Blk (Lib.bytesWorld w e s) g cs t := (Lib.bytesWorld_at_old w e s g h.lt).trans h
theorem cell_far {w : World} {p : Addr} {g : Nat} (h : g ≠ p.block) (u : Value) (j : Nat) : (w.setCell p u).cell? ⟨g, j, none⟩ = w.cell? ⟨g, j, none⟩ :=
  World.cell?_of_block (w := w) (a := ⟨g, j, none⟩) (Below.heap_setCell w p u g h)
theorem setCell_twice (w : World) (a : Addr) (u v : Value) : (w.setCell a u).setCell a v = w.setCell a v := by
  simp only [World.setCell]
  congr 1
  apply Array.ext_getElem?
  intro i
  simp only [Array.getElem?_modify]
  split
  · rw [Option.map_map]
    congr 1
    funext o
    cases o with
    | cells c e fr => simp only [Function.comp]; split <;> simp [Array.setIfInBounds_setIfInBounds]
    | _ => rfl
  · rfl
theorem size_setCell (w : World) (a : Addr) (v : Value) : (w.setCell a v).heap.size = w.heap.size := by simp [World.setCell]
theorem size_alloc (w : World) (o : Obj) : (w.alloc o).heap.size = w.heap.size + 1 := by simp
theorem size_drew (w : World) : w.drew.heap.size = w.heap.size := rfl

/-- The slice v is a row of the call's own (from block base on) that reads as xs, each element written by enc. -/
def OwnL {α : Type} (enc : α → List Value) (w : World) (base : Nat) (e : TypeId) (size : Nat) (v : Value) (xs : List α) : Prop :=
  w.ownsRow base e size v xs.length (xs.flatMap enc)
section
variable {α : Type} {enc : α → List Value} {w w1 : World} {base : Nat} {e : TypeId} {size : Nat} {v : Value} {xs : List α}
theorem OwnL.nil : OwnL enc w base e size (.slice none 0 0) [] := own_nil _ _ _ _
theorem OwnL.alloc (h : OwnL enc w base e size v xs) (o : Obj) : OwnL enc (w.alloc o) base e size v xs := World.ownsRow.alloc h o
theorem OwnL.drew (h : OwnL enc w base e size v xs) : OwnL enc w.drew base e size v xs := h
theorem OwnL.drewN (h : OwnL enc w base e size v xs) (n : Nat) : OwnL enc (w.drewN n) base e size v xs := h
theorem OwnL.below (h : OwnL enc w base e size v xs) (hb : Below w.heap.size w w1) : OwnL enc w1 base e size v xs := own_below h hb
theorem OwnL.lt (h : OwnL enc w base e size v xs) : ∀ k, v.ownBlock = some k → base ≤ k ∧ k < w.heap.size := World.ownsRow.lt h
theorem OwnL.grown (h : OwnL enc w base e size v xs) {row : Option Nat} (hg : w.grownBy w1 row) (hne : ∀ k, v.ownBlock = some k → row ≠ some k) : OwnL enc w1 base e size v xs :=
  World.ownsRow.kept h hg (by
    cases hv : v.ownBlock with
    | none => exact .inl rfl
    | some k => exact .inr (fun e => hne k hv e.symm))
theorem OwnL.set (h : OwnL enc w base e size v xs) {a : Addr} (hne : v.ownBlock ≠ some a.block) (u : Value) : OwnL enc (w.setCell a u) base e size v xs := by
  obtain ⟨h1, h2⟩ := h
  refine ⟨h1, ?_⟩
  rcases h2 with h2 | ⟨g, cap, cur, hv, hg, hh, r⟩
  · exact .inl h2
  · refine .inr ⟨g, cap, cur, hv, hg, ?_, r⟩
    rw [Below.heap_setCell _ _ _ _ (fun e => hne (by rw [hv, ← e]; rfl))]
    exact hh
theorem OwnL.lower (h : OwnL enc w base e size v xs) {b : Nat} (hb : b ≤ base) : OwnL enc w b e size v xs := by
  obtain ⟨h1, h2⟩ := h
  refine ⟨h1, ?_⟩
  rcases h2 with h2 | ⟨g, cap, cur, hv, hg, r⟩
  · exact .inl h2
  · exact .inr ⟨g, cap, cur, hv, by omega, r⟩
theorem OwnL.form (h : OwnL enc w base e size v xs) : ∃ A c, v = .slice A xs.length c ∧ xs.length ≤ c ∧ c ≤ maxLen := by
  rcases h.2 with ⟨rfl, hn⟩ | ⟨g, cap, cur, rfl, _, _, h1, h2, _⟩
  · exact ⟨none, 0, by rw [hn], by omega, by unfold maxLen; omega⟩
  · exact ⟨_, cap, rfl, h1, h2⟩
theorem OwnL.read {R : World → Nat → Nat → α → Prop} {F : Nat → Prop} (h : OwnL enc w base e size v xs) (hsz : ∀ x, (enc x).length = size) (hF : ∀ b, base ≤ b → b < w.heap.size → F b)
    (hR : ∀ b o x, x ∈ xs → (∀ j u, (enc x)[j]? = some u → w.cell? ⟨b, o + j, none⟩ = some u) → R w b o x) : SlR R size F w v xs := SlR.of_own hsz h hF hR
end
theorem wpList_app1 {P : Program} {w : World} {ops : Array Oper} {rest : List Oper} {o : Oper} {a : Act} {Q : Exit → Act → World → Prop} (hgd : o.guard = none) (s x : Operand) (t : TypeId)
    (ho : o.op = .call { callee := .builtin .append, args := #[s, x], argTypes := #[t, t] }) (base : Nat) (e : TypeId) (z : Value) (size bytes : Nat) (ht : P.underlying t = some (.slice e))
    (hinfo : (P.info? e).map (fun i => (i.zero, i.size, i.bytes)) = some (some z, size, bytes)) (hzs : z.cells.size = size) (hsz : 0 < size) {α : Type} (enc : α → List Value) (xs : List α) (v : Value)
    (hs : a.eval s = v) (hown : OwnL enc w base e size v xs) (y : α) (g : Nat) (hx : a.eval x = .slice (some ⟨g, 0, none⟩) 1 1) (hl : (enc y).length = size)
    (hnews : ∀ j u, (enc y)[j]? = some u → w.cell? ⟨g, j, none⟩ = some u) (h1 : ∀ u ∈ enc y, u.oneCell' = true) (hlen : (xs.length + 1) * bytes ≤ 140737488355328) (hb : 0 < bytes) (hbase : base ≤ w.heap.size)
    (h : ∀ v' w', OwnL enc w' base e size v' (xs ++ [y]) → w.grownBy w' v.ownBlock → v' ≠ .slice none 0 0 → wpList P ops Q rest (a.put o.dst v') w') : wpList P ops Q (o :: rest) a w := by
  obtain ⟨i0, hi, hz0, hz1, hz2⟩ := info_parts hinfo
  refine wpList_append_own w hgd s x t ho base e i0 z size bytes ht hi hz0 hz1 hz2 hzs hsz v xs.length _ hs hown ⟨g, 0, none⟩ 1 1 (enc y) hx (by omega) ?_ h1 ?_ hlen hbase ?_
  · intro j u hu
    have e : ((⟨g, 0, none⟩ : Addr).add j) = ⟨g, j, none⟩ := by
      unfold Addr.add
      split
      · simp_all
      · simp
    rw [e]
    exact hnews j u hu
  · have : (xs.length + 1) * 1 ≤ (xs.length + 1) * bytes := Nat.mul_le_mul_left _ hb
    unfold maxLen
    omega
  · intro v' w' h2 h3 h4
    refine h v' w' ?_ h3 (fun hn => by have := h4.1 hn; omega)
    unfold OwnL
    rw [List.length_append, List.length_singleton, List.flatMap_append, List.flatMap_singleton]
    exact h2

/-- '==' of structs, a field at a time -/
theorem eqs_nil {P : Program} {d : Nat} {xs ys : Array Value} {w : World} : (Op.eqFields d xs ys []).run P w = .ok true w := by simp [Op.eqFields]
theorem eqs_cons {P : Program} {d : Nat} {xs ys : Array Value} {f : Field} {fs : List Field} {a b : Value} {r s : Bool} {w : World} (hn : f.name ≠ "_") (ha : (part f.type xs f.offset).run P w = .ok a w)
    (hb : (part f.type ys f.offset).run P w = .ok b w) (he : (Op.equalIn d f.type a b).run P w = .ok r w) (hr : (Op.eqFields d xs ys fs).run P w = .ok s w) : (Op.eqFields d xs ys (f :: fs)).run P w = .ok (r && s) w := by
  rw [Op.eqFields]
  simp only [if_pos hn, Sem.run_bind, ha, hb, he, Result.andThen_ok]
  cases r
  · simp
  · simpa using hr
theorem eqs_of {P : Program} {d : Nat} {xs ys : Array Value} {t : TypeId} {fs : Array Field} {r : Bool} {w : World} (hu : P.underlying t = some (.struct fs)) (hp : P.stoodInHeld t = false)
    (h : (Op.eqFields d xs ys fs.toList).run P w = .ok r w) : (Op.equalIn (d + 1) t (.agg xs) (.agg ys)).run P w = .ok r w := by
  have hf : P.fieldsOf t = fs := by simp [Program.fieldsOf, hu]
  rw [run_equalIn_struct (P := P) w d t xs ys (by rw [hf]; exact hu) hp, hf]
  exact h

theorem below_drewN {B : Nat} {w W : World} (h : Below B w W) (n : Nat) : Below B w (W.drewN n) := ⟨h.os, h.tape, h.output, h.size, h.block⟩
/-- two rows that are one so far -/
theorem take_eq_step {α : Type} {xs ys : List α} {k : Nat} (hx : k < xs.length) (hy : k < ys.length) (h : xs.take k = ys.take k) (e : xs[k] = ys[k]) : xs.take (k + 1) = ys.take (k + 1) := by
  rw [List.take_succ_eq_append_getElem hx, List.take_succ_eq_append_getElem hy, h, e]
theorem take_eq_end {α : Type} {xs ys : List α} (hl : xs.length = ys.length) (h : xs.take xs.length = ys.take xs.length) : xs = ys := by
  rw [List.take_length, List.take_of_length_le (by omega)] at h
  exact h

theorem wp_scope_label {P : Program} {a : Act} {w : World} {Q : Exit → Act → World → Prop} {c rest : Code} (l : Nat) (J : Act → World → Prop) (μ : Act → World → Nat) (hf : findLabel c l = some (Code.skip.seq rest))
    (first : (∀ a w, J a w → rest.wp P (Exit.jump l J Q) a w) → c.wp P (Exit.jump l J Q) a w)
    (pass : ∀ a w, J a w → rest.wp P (Exit.jump l (fun a' w' => J a' w' ∧ μ a' w' < μ a w) Q) a w) : (Code.scope c).wp P Q a w :=
  wp_scope_jumps l J μ hf (first fun a w h => wp_mono (pass a w h) fun e a w q => by cases e <;> first | exact q | exact ⟨q.1, q.2.1⟩)
    fun a w h => wp_seq (wp_skip (pass a w h))
end Go.Proofs.YtniejidekflmiaaGreatDoor
/- Small words, more: cells past an alloc. -/
namespace Go.Proofs.YtniejidekflmiaaGreatDoor
theorem cell_past {w : World} {b o : Nat} {u : Value} (h : w.cell? ⟨b, o, none⟩ = some u) (x : Obj) : (w.alloc x).cell? ⟨b, o, none⟩ = some u := by
  rw [World.cell?_alloc_past _ _ _ (World.block_lt_of_cell? w ⟨b, o, none⟩ h)]
  exact h
end Go.Proofs.YtniejidekflmiaaGreatDoor
