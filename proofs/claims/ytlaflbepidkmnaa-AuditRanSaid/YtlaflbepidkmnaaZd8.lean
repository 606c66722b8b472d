/- Lemmas: Of events: who was pending, who ran (ref27.Of); The kernel: made; A kernel that runs through inputs; are inputs too long?; slices.Equal of numbers; The document's cache (ref18). -/
import Derived.Test.YtlaflbepidkmnaaProg
import Derived.Test.YtlaflbepidkmnaaZd7
import Derived.Deep.Cut
import Derived.Lib.Hide
import Derived.OwnWalk
import Derived.Maps.AppendAt
import Derived.BigQuiet
import Derived.Deep.DeepMust
import Derived.Test.YtlaflbepidkmnaaRows
import Derived.LaidMore
import Derived.Lib.LaidTab
import Derived.MakeChecks
import Derived.Stop.LaidErr
import Derived.Deep.QuietTactic
import Derived.Laws.Bits64b
import Derived.Laws.Bits128
/- OfW -/
namespace Go.Proofs.Ytlaflbepidkmnaa
open Go.RowKit
attribute [local go_sem] setCell_twice ByteArray.toList_eq str_list Ext.alloc Ext.drew
set_option linter.unusedSimpArgs false
set_option linter.unusedVariables false
set_option maxRecDepth 100000
set_option maxHeartbeats 1600000
attribute [local irreducible] Calls

section
variable {w w' : World} {g : Nat} {xs : List Bool}
end
def risK (xs : List Bool) (k : Nat) : List Int := ((List.range k).filter fun i => xs.getD i false).map Int.ofNat
theorem risK_step (xs : List Bool) (k : Nat) : risK xs (k + 1) = if xs.getD k false = true then risK xs k ++ [(k : Int)] else risK xs k := by
  unfold risK
  rw [List.range_succ, List.filter_append, List.map_append]
  cases h : xs.getD k false with
  | true =>
    rw [if_pos rfl, List.filter_cons_of_pos (p := fun i => xs.getD i false) h]
    rfl
  | false =>
    rw [if_neg (by decide), List.filter_cons_of_neg (p := fun i => xs.getD i false) (by rw [h]; decide)]
    show _ ++ [] = _
    rw [List.append_nil]
theorem risK_len (xs : List Bool) (k : Nat) : (risK xs k).length ≤ k := by
  unfold risK
  rw [List.length_map]
  refine Nat.le_trans (List.length_filter_le _ _) ?_
  rw [List.length_range]
  exact Nat.le_refl _
theorem infoRow : (Try.prog.info? 40).map (fun i => (i.zero, i.size, i.bytes)) = some (some (.slice none 0 0), 1, 24) := by kernel_rfl
def encRow (p : List Int × Value) : List Value := [p.2]
section
variable {w0 w w' w2 : World} {ran : List Int} {pe : List (List Int)} {vr vp : Value} {ps : List (List Int × Value)}
end
theorem ofT_fin (L : List Ev) (m : Nat) : (ofT L m).o.fin = false := by
  cases m with
  | zero => rfl
  | succ m =>
    rw [ofT_succ]
    unfold OfTk.tick OfS.next
    dsimp only
    split <;> rfl
theorem ofT_len (L : List Ev) (m : Nat) : (ofT L m).ran.length = m ∧ (ofT L m).pend.length = m := by
  induction m with
  | zero => exact ⟨rfl, rfl⟩
  | succ m ih =>
    rw [ofT_succ]
    unfold OfTk.tick
    dsimp only
    rw [List.length_append, List.length_append, ih.1, ih.2]
    exact ⟨rfl, rfl⟩
theorem takeWhile_take' {α : Type} {p : α → Bool} : ∀ (l : List α) (m : Nat), m ≤ l.length → (∀ x ∈ l.take m, p x = true) → (∀ h : m < l.length, p l[m] = false) → l.takeWhile p = l.take m
  | [], m, _, _, _ => by simp
  | x :: l, 0, _, _, h => by
    have := h (by simp)
    simp only [List.getElem_cons_zero] at this
    rw [List.takeWhile_cons_of_neg (by simp [this]), List.take_zero]
  | x :: l, m + 1, hm, h1, h2 => by
    rw [List.take_succ_cons, List.takeWhile_cons_of_pos (h1 x (by simp)), takeWhile_take' l m (by simpa using hm) (fun y hy => h1 y (by simp [hy])) (fun h => by have := h2 (by simpa using h); simpa using this)]
theorem OfS.ev_off {o : OfS} {e : Ev} (h : e.isTask = false) : o.ev e = o := by
  unfold OfS.ev
  rw [if_pos h]
theorem OfS.ev_none {o : OfS} {e : Ev} (h1 : e.kind ≠ 1) (h4 : e.kind ≠ 4) (h5 : e.kind ≠ 5) (h6 : e.kind ≠ 6) (h8 : e.kind ≠ 8) (h9 : e.kind ≠ 9) : o.ev e = o := by
  unfold OfS.ev
  split
  · rfl
  · repeat (first | rw [if_neg h1] | rw [if_neg h5] | rw [if_neg (show ¬ (e.kind = 4 ∨ e.kind = 6) by omega)] | rw [if_neg (show ¬ (e.kind = 8 ∨ e.kind = 9) by omega)])
/-- within a tick: c events behind the first i0 -/
structure OfIn (L : List Ev) (t : Int) (i0 c : Nat) (o0 o : OfS) : Prop where
  le : i0 + c ≤ L.length
  all : ∀ e ∈ (L.drop i0).take c, decide (e.tick = t) = true
  fold : ((L.drop i0).take c).foldl OfS.ev o0 = o
  at' : o.fin = true → 0 ≤ o.at' ∧ o.at' < 8
  len : o.there.length = 8
theorem OfIn.next {L : List Ev} {t : Int} {i0 c : Nat} {o0 o : OfS} (h : OfIn L t i0 c o0 o) (hj : i0 + c < L.length) (ht : (evAt L (i0 + c)).tick = t) : OfIn L t i0 (c + 1) o0 (o.ev (evAt L (i0 + c))) := by
  have hlen : c < (L.drop i0).length := by rw [List.length_drop]; omega
  have hget : (L.drop i0)[c] = evAt L (i0 + c) := by rw [List.getElem_drop, evAt_in hj]
  have hnx : (L.drop i0).take (c + 1) = (L.drop i0).take c ++ [evAt L (i0 + c)] := by rw [List.take_succ_eq_append_getElem hlen, hget]
  refine ⟨by omega, fun e he => ?_, ?_, ?_, ?_⟩
  · rw [hnx] at he
    rcases mem_snoc he with he | rfl
    · exact h.all e he
    · exact decide_eq_true ht
  · rw [hnx, List.foldl_append, h.fold]
    rfl
  · generalize evAt L (i0 + c) = e
    cases hk : e.isTask with
    | false => rw [OfS.ev_off hk]; exact h.at'
    | true =>
      have hk2 := hk
      unfold Ev.isTask at hk2
      simp only [Bool.and_eq_true, decide_eq_true_eq] at hk2
      unfold OfS.ev
      rw [if_neg (by simp [hk])]
      split
      · exact h.at'
      · split
        · exact h.at'
        · split
          · exact h.at'
          · split
            · intro _; exact hk2
            · exact h.at'
  · generalize evAt L (i0 + c) = e
    unfold OfS.ev
    split
    · exact h.len
    · split
      · show (o.there.set _ _).length = 8
        rw [List.length_set]; exact h.len
      · split
        · exact h.len
        · split
          · exact h.len
          · split
            · exact h.len
            · exact h.len
theorem OfIn.stop {L : List Ev} {t : Int} {i0 c : Nat} {o0 o : OfS} (h : OfIn L t i0 c o0 o) (hs : i0 + c < L.length → (evAt L (i0 + c)).tick ≠ t) : ((L.drop i0).takeWhile fun e => decide (e.tick = t)) = (L.drop i0).take c := by
  have hl := h.le
  refine takeWhile_take' _ _ (by rw [List.length_drop]; omega) h.all (fun hc => ?_)
  rw [List.length_drop] at hc
  have hj : i0 + c < L.length := by omega
  rw [List.getElem_drop, ← evAt_in hj]
  exact decide_eq_false (hs hj)
/-- the tick is over -/
theorem OfIn.tick {L : List Ev} {m i0 c : Nat} {x : OfTk} {o : OfS} (h : OfIn L m i0 c x.o o) (hr : x.rest = L.drop i0) (hs : i0 + c < L.length → (evAt L (i0 + c)).tick ≠ (m : Int)) : x.tick m = ⟨L.drop (i0 + c), o.next, x.ran ++ [o.now], x.pend ++ [risingL o.there]⟩ := by
  have hev : x.evs m = (L.drop i0).take c := by
    unfold OfTk.evs
    rw [hr]
    exact h.stop hs
  have hl : (x.evs m).length = c := by
    rw [hev, List.length_take, List.length_drop]
    have := h.le
    omega
  unfold OfTk.tick
  rw [hl, hev, h.fold, hr, List.drop_drop]
theorem ofT_at' (L : List Ev) (m : Nat) : (ofT L m).o.at' = 0 := by
  cases m with
  | zero => rfl
  | succ m =>
    rw [ofT_succ]
    unfold OfTk.tick OfS.next
    dsimp only
    split <;> rfl
theorem list8 {α : Type} : ∀ {l : List α}, l.length = 8 → ∃ a0 a1 a2 a3 a4 a5 a6 a7, l = [a0, a1, a2, a3, a4, a5, a6, a7]
  | [a0, a1, a2, a3, a4, a5, a6, a7], _ => ⟨a0, a1, a2, a3, a4, a5, a6, a7, rfl⟩
theorem grown_ext' {w w1 w2 : World} {row : Option Nat} (h : w.grownBy w1 row) (hx : Ext w1 w2) : w.grownBy w2 row :=
  ⟨hx.below.os.trans h.os, hx.below.tape.trans h.tape, hx.below.output.trans h.output, Nat.le_trans h.size hx.below.size, fun k hk hn => (hx.below.block k (Nat.lt_of_lt_of_le hk h.size)).trans (h.block k hk hn)⟩
theorem encRow_one (p : List Int × Value) (h : p.2.oneCell' = true) : ∀ u ∈ encRow p, u.oneCell' = true := by
  intro u hu
  simp only [encRow, List.mem_cons, List.not_mem_nil, or_false] at hu
  subst hu
  exact h
theorem dems_own {w : World} {base : Nat} {vp : Value} {ps : List (List Int × Value)} (h : OwnL encRow w base 40 1 vp ps) (hr : ∀ p ∈ ps, OwnL encN w base 3 1 p.2 p.1) : SlR DemR 1 Any w vp (ps.map (·.1)) := by
  have := h.read (R := fun w b o p => DemR w b o p.1) (F := Any) (fun _ => rfl) (fun _ _ _ => trivial) (fun b o p hp hx => ⟨p.2, hx 0 _ rfl, OwnL.ints (hr p hp)⟩)
  obtain ⟨A, c, e, h1, h2, h3⟩ := this
  refine ⟨A, c, by rw [List.length_map]; exact e, by rw [List.length_map]; exact h1, h2, fun hne => ?_⟩
  obtain ⟨b, o, e, _, hx⟩ := h3 (fun e => hne (by rw [e]; rfl))
  exact ⟨b, o, e, trivial, fun i hi => by
    rw [List.length_map] at hi
    have := hx i hi
    rw [List.getElem_map]
    exact this⟩
end Go.Proofs.Ytlaflbepidkmnaa
/- Knew -/
namespace Go.Proofs.Ytlaflbepidkmnaa
open Go.RowKit
attribute [local go_sem] setCell_twice Ext.alloc Ext.drew
set_option linter.unusedSimpArgs false
set_option linter.unusedVariables false
set_option maxRecDepth 100000
set_option maxHeartbeats 6400000
attribute [local irreducible] Calls
theorem made_ow0 : madeCells (Value.agg #[.pointer none, .int .u64 0, .int .i64 0]).cells (0 * 3) = ((List.replicate 0 Ow.zero).flatMap encOw).toArray := by kernel_rfl
theorem made_ow1 : madeCells (Value.agg #[.pointer none, .int .u64 0, .int .i64 0]).cells (1 * 3) = ((List.replicate 1 Ow.zero).flatMap encOw).toArray := by kernel_rfl
theorem made_ow2 : madeCells (Value.agg #[.pointer none, .int .u64 0, .int .i64 0]).cells (2 * 3) = ((List.replicate 2 Ow.zero).flatMap encOw).toArray := by kernel_rfl
theorem made_ow3 : madeCells (Value.agg #[.pointer none, .int .u64 0, .int .i64 0]).cells (3 * 3) = ((List.replicate 3 Ow.zero).flatMap encOw).toArray := by kernel_rfl
theorem made_ow4 : madeCells (Value.agg #[.pointer none, .int .u64 0, .int .i64 0]).cells (4 * 3) = ((List.replicate 4 Ow.zero).flatMap encOw).toArray := by kernel_rfl
theorem made_ow5 : madeCells (Value.agg #[.pointer none, .int .u64 0, .int .i64 0]).cells (5 * 3) = ((List.replicate 5 Ow.zero).flatMap encOw).toArray := by kernel_rfl
theorem made_ow6 : madeCells (Value.agg #[.pointer none, .int .u64 0, .int .i64 0]).cells (6 * 3) = ((List.replicate 6 Ow.zero).flatMap encOw).toArray := by kernel_rfl
theorem made_ow7 : madeCells (Value.agg #[.pointer none, .int .u64 0, .int .i64 0]).cells (7 * 3) = ((List.replicate 7 Ow.zero).flatMap encOw).toArray := by kernel_rfl
theorem made_ow8 : madeCells (Value.agg #[.pointer none, .int .u64 0, .int .i64 0]).cells (8 * 3) = ((List.replicate 8 Ow.zero).flatMap encOw).toArray := by kernel_rfl
theorem made_ow {n : Nat} (h : n ≤ 8) : madeCells (Value.agg #[.pointer none, .int .u64 0, .int .i64 0]).cells (n * 3) = ((List.replicate n Ow.zero).flatMap encOw).toArray := by
  have h9 : n = 0 ∨ n = 1 ∨ n = 2 ∨ n = 3 ∨ n = 4 ∨ n = 5 ∨ n = 6 ∨ n = 7 ∨ n = 8 := by omega
  clear h
  rcases h9 with rfl | rfl | rfl | rfl | rfl | rfl | rfl | rfl | rfl
  · exact made_ow0
  · exact made_ow1
  · exact made_ow2
  · exact made_ow3
  · exact made_ow4
  · exact made_ow5
  · exact made_ow6
  · exact made_ow7
  · exact made_ow8
section
variable {s : TSet} {W0 w w' w2 : World} {gc gt gs go gk m m' : Nat} {vt vp : Value} {ps : List (Tsk × Value)}
end
theorem grown_ext {w w1 w2 : World} {row : Option Nat} (h : w.grownBy w1 row) (hx : Ext w1 w2) : w.grownBy w2 row :=
  ⟨hx.below.os.trans h.os, hx.below.tape.trans h.tape, hx.below.output.trans h.output, Nat.le_trans h.size hx.below.size, fun k hk hn => (hx.below.block k (Nat.lt_of_lt_of_le hk h.size)).trans (h.block k hk hn)⟩
theorem polL_init (s : TSet) : polL s (initK s) = (s.tasks.map (·.T)).map fun t => (t, (-1 : Int)) := by
  unfold polL
  refine List.ext_getElem (by simp) fun i h1 h2 => ?_
  have hi : i < s.tasks.length := by simpa using h1
  simp only [List.getElem_map, List.getElem_range]
  have e : (initK s).pol.getD i (-1) = -1 := by simp [initK, List.getD, hi]
  rw [e, tk_at s hi]
theorem owAt_init (n i : Nat) : owAt (List.replicate n Ow.zero) i = Ow.zero := by
  unfold owAt
  simp only [List.getD, List.getElem?_replicate]
  split <;> rfl
theorem stAt_init (s : TSet) (i : Nat) : stAt (initK s).tab i = St.zero := by
  unfold stAt initK
  simp only [List.getD, List.getElem?_replicate]
  split <;> rfl
end Go.Proofs.Ytlaflbepidkmnaa
/- Krn -/
namespace Go.Proofs.Ytlaflbepidkmnaa
open Go.RowKit
attribute [local go_sem] setCell_twice Ext.alloc Ext.drew
set_option linter.unusedSimpArgs false
set_option linter.unusedVariables false
set_option maxRecDepth 100000
set_option maxHeartbeats 1600000
attribute [local irreducible] Calls

theorem own_news {α : Type} {enc : α → List Value} {w : World} {base size n c : Nat} {e : TypeId} {A : Option Addr} {xs : List α} (h : OwnL enc w base e size (.slice A n c) xs) (hn : 0 < n) : ∃ b o, A = some ⟨b, o, none⟩ ∧ ∀ j u, (xs.flatMap enc)[j]? = some u → w.cell? ⟨b, o + j, none⟩ = some u := by
  rcases h.2 with ⟨hv, _⟩ | ⟨g, cap, cur, hv, _, hh, _, _, _, _⟩
  · obtain ⟨rfl, rfl, rfl⟩ := Value.slice.inj hv
    omega
  · obtain ⟨rfl, rfl, rfl⟩ := Value.slice.inj hv
    refine ⟨g, 0, rfl, fun j u hu => ?_⟩
    have := World.ownsRow.cells h (g := g) rfl j u hu
    rw [add_none] at this
    exact this
theorem cells_same {w w' : World} {b o : Nat} {v : Value} {B : Nat} (hB : w.heap.size ≤ B) (hs : ∀ q, q < B → w'.heap[q]? = w.heap[q]?) (h : w.cell? ⟨b, o, none⟩ = some v) : w'.cell? ⟨b, o, none⟩ = some v := by
  have hb : b < w.heap.size := World.block_lt_of_cell? w ⟨b, o, none⟩ h
  rw [World.cell?_of_block (w := w) (a := ⟨b, o, none⟩) (hs b (by omega))]
  exact h
theorem DemR.same {w w' : World} {b o : Nat} {xs : List Int} {B : Nat} (hB : w.heap.size ≤ B) (hs : ∀ q, q < B → w'.heap[q]? = w.heap[q]?) (h : DemR w b o xs) : DemR w' b o xs := by
  obtain ⟨r, h1, A, c, rfl, h2, h3, h4⟩ := h
  exact ⟨_, cells_same hB hs h1, A, c, rfl, h2, h3, fun hne => by
    obtain ⟨b', o', e, hx⟩ := h4 hne
    exact ⟨b', o', e, fun i hi => cells_same hB hs (hx i hi)⟩⟩
end Go.Proofs.Ytlaflbepidkmnaa
/- What the laws of chapter 25 ask of the memory that the library lays. -/
namespace Go.Proofs.Ytlaflbepidkmnaa
open Go.RowKit
set_option linter.unusedSimpArgs false
end Go.Proofs.Ytlaflbepidkmnaa
/- law 25: are inputs too long? known. -/
namespace Go.Proofs.Ytlaflbepidkmnaa
open Go.RowKit
attribute [local go_sem] setCell_twice ByteArray.toList_eq str_list Ext.alloc Ext.drew
set_option linter.unusedSimpArgs false
set_option linter.unusedVariables false
set_option maxRecDepth 100000
set_option maxHeartbeats 1600000
attribute [local irreducible] Calls

def longD (x : List Int) : Bool := decide (x.length > 20)
def longI (x : Inp) : Bool := decide (x.dems.length > 20) || x.dems.any longD
def longB (l : List Inp) : Bool := (l.take 300).any longI || decide (l.length > 250)
theorem longB_no {l : List Inp} (h : longB l = false) : l.length ≤ 250 := by
  unfold longB at h
  rw [Bool.or_eq_false_iff] at h
  have := of_decide_eq_false h.2
  omega
theorem any_step {α : Type} {p : α → Bool} {l : List α} {k : Nat} (hk : k < l.length) (h : (l.take k).any p = false) : (p l[k] = false → (l.take (k + 1)).any p = false) ∧ (∀ n, k < n → p l[k] = true → (l.take n).any p = true) := by
  refine ⟨fun h2 => ?_, fun n hn h2 => ?_⟩
  · rw [List.take_succ_eq_append_getElem hk, List.any_append, h]
    simp [h2]
  · rw [List.any_eq_true]
    exact ⟨l[k], List.mem_iff_getElem.2 ⟨k, by rw [List.length_take]; omega, by rw [List.getElem_take]⟩, h2⟩
def kt25 : Tsk := ⟨str [97], 5, 5, 0, 0, 0, [2], 0, 0⟩
def kS25 : TSet := ⟨0, [kt25]⟩
def kI25 : List Inp := [⟨1, [[2]], 0⟩, ⟨0, [], 0⟩, ⟨0, [], 0⟩]
def kE25 : List Ev := [⟨0, 1, 0, 0⟩, ⟨0, 4, 0, 0⟩, ⟨1, 7, 0, 0⟩, ⟨1, 8, 0, 2⟩, ⟨2, 10, -1, 0⟩]
theorem kS25_all : allB kS25 = true := by decide +kernel
theorem kS25_fit : kS25.fit := by
  refine ⟨by decide, by decide, fun t ht => ?_⟩
  obtain rfl : t = kt25 := by simpa [kS25] using ht
  refine ⟨by decide, by decide, by decide, by decide, by decide, by decide, by decide, by decide, by decide, fun n hn => ?_⟩
  obtain rfl : n = 2 := by simpa [kt25] using hn
  decide
theorem kE25_eq : eventsK kS25 kI25 = kE25 := by decide +kernel
/-- a row of events in a block -/
theorem evs_blk {w : World} {g : Nat} {t : TypeId} {L : List Ev} (h : Blk w g (L.flatMap encEv).toArray t) (hl : L.length ≤ 1000) : Evs w (.slice (some ⟨g, 0, none⟩) L.length L.length) L := by
  refine ⟨_, _, rfl, Nat.le_refl _, by unfold maxLen; omega, fun _ => ⟨g, 0, rfl, trivial, fun i hi => ?_⟩⟩
  have hh := fun j (hj : j < 4) => RowBk.at (enc := encEv) (xs := L) h encEv_len hi hj
  rw [Nat.zero_add]
  exact ⟨by have := hh 0 (by omega); exact this, hh 1 (by omega), hh 2 (by omega), hh 3 (by omega)⟩
theorem ints_one' {w : World} {g : Nat} {x : Int} {e : TypeId} (hB : Blk w g #[.int .i64 x] e) : Ints w (.slice (some ⟨g, 0, none⟩) 1 1) [x] := by
  refine ⟨_, 1, rfl, Nat.le_refl _, by unfold maxLen; decide, fun _ => ⟨g, 0, rfl, fun i hi => ?_⟩⟩
  have hi0 : i = 0 := by simpa using hi
  subst hi0
  exact hB.cell 0
theorem tasks_one' {w : World} {g : Nat} {t : Tsk} {r : Value} {e : TypeId} (hT : Blk w g #[.string t.name, .int .i64 t.T, .int .i64 t.D, .int .i64 t.mode, .int .i64 t.q, .int .i64 t.theta, r, .int .u64 t.ecb, .int .u64 t.ucb] e) (hI : Ints w r t.regs) : Tasks w (.slice (some ⟨g, 0, none⟩) 1 1) [t] := by
  refine ⟨_, 1, rfl, Nat.le_refl _, by unfold maxLen; decide, fun _ => ⟨g, 0, rfl, fun i hi => ?_⟩⟩
  have hi0 : i = 0 := by simpa using hi
  subst hi0
  exact ⟨r, hI, hT.cell 0, hT.cell 1, hT.cell 2, hT.cell 3, hT.cell 4, hT.cell 5, hT.cell 6, hT.cell 7, hT.cell 8⟩
theorem dems_blk {w : World} {g : Nat} {t : TypeId} {vs : List Value} {ds : List (List Int)} (h : Blk w g vs.toArray t) (hl : vs.length = ds.length) (hs : ds.length ≤ 1000) (hd : ∀ i (h1 : i < vs.length) (h2 : i < ds.length), Ints w vs[i] ds[i]) : SlR DemR 1 Any w (.slice (some ⟨g, 0, none⟩) ds.length ds.length) ds := by
  refine ⟨_, _, rfl, Nat.le_refl _, by unfold maxLen; omega, fun _ => ⟨g, 0, rfl, trivial, fun i hi => ⟨vs[i]'(by omega), ?_, hd i (by omega) hi⟩⟩⟩
  rw [h.cell, Nat.zero_add, Nat.mul_one, List.getElem?_toArray, List.getElem?_eq_getElem (by omega)]
def encInV (p : Value × Inp) : List Value := [.int .u64 p.2.arrive, p.1, .int .u64 p.2.touch]
theorem inps_blk {w : World} {g : Nat} {t : TypeId} {ps : List (Value × Inp)} (h : Blk w g (ps.flatMap encInV).toArray t) (hs : ps.length ≤ 1000) (hd : ∀ p ∈ ps, SlR DemR 1 Any w p.1 p.2.dems) : SlR InpR 3 Any w (.slice (some ⟨g, 0, none⟩) ps.length ps.length) (ps.map (·.2)) := by
  refine ⟨_, _, by rw [List.length_map], by rw [List.length_map]; exact Nat.le_refl _, by unfold maxLen; omega, fun _ => ⟨g, 0, rfl, trivial, fun i hi => ?_⟩⟩
  have hi' : i < ps.length := by simpa using hi
  have hh := fun j (hj : j < 3) => RowBk.at (enc := encInV) (xs := ps) h (fun _ => rfl) hi' hj
  rw [Nat.zero_add, List.getElem_map]
  exact ⟨by have := hh 0 (by omega); exact this, ⟨(ps[i]).1, hh 1 (by omega), hd _ (List.getElem_mem hi')⟩, hh 2 (by omega)⟩
theorem dems_none (w : World) : SlR DemR 1 Any w (.slice none 0 0) [] := SlR.nil _ _ _ _
theorem ints_none (w : World) : Ints w (.slice none 0 0) [] := ⟨none, 0, rfl, Nat.le_refl _, Nat.zero_le _, fun h => absurd rfl h⟩
theorem evs_blk' {w : World} {g n : Nat} {t : TypeId} {L : List Ev} (h : Blk w g (L.flatMap encEv).toArray t) (hn : n = L.length) (hl : L.length ≤ 1000) : Evs w (.slice (some ⟨g, 0, none⟩) n n) L := by
  subst hn
  exact evs_blk h hl
end Go.Proofs.Ytlaflbepidkmnaa
/- TskS -/
namespace Go.Proofs.Ytlaflbepidkmnaa
open Go.RowKit
attribute [local go_sem] setCell_twice ByteArray.toList_eq str_list Ext.alloc Ext.drew

set_option linter.unusedSimpArgs false
end Go.Proofs.Ytlaflbepidkmnaa
/- Two tasks, two sets: are they one? -/
namespace Go.Proofs.Ytlaflbepidkmnaa
open Go.RowKit
attribute [local go_sem] setCell_twice ByteArray.toList_eq str_list Ext.alloc Ext.drew

set_option linter.unusedSimpArgs false
end Go.Proofs.Ytlaflbepidkmnaa
/- R18 -/
namespace Go.Proofs.Ytlaflbepidkmnaa
open Go.RowKit
attribute [local go_sem] setCell_twice ByteArray.toList_eq str_list Ext.alloc Ext.drew
set_option linter.unusedSimpArgs false
set_option linter.unusedVariables false
set_option maxRecDepth 100000
set_option maxHeartbeats 1600000
attribute [local irreducible] Calls

/-- the document's cache at gc -/
structure CacheR (w : World) (gc : Nat) (own : List Int) : Prop where
  box : Blk w gc (own.map (Value.int .i64)).toArray 86
  len : own.length = 64
section
variable {w w' : World} {gc : Nat} {own : List Int}
theorem CacheR.ext (h : CacheR w gc own) (hx : Ext w w') : CacheR w' gc own := ⟨h.box.ext hx, h.len⟩
theorem CacheR.chg {F : Nat → Prop} (h : CacheR w gc own) (hx : Chg F w w') (h1 : ¬ F gc) : CacheR w' gc own := ⟨h.box.chg hx h1, h.len⟩
theorem CacheR.at (h : CacheR w gc own) {i : Nat} (hi : i < 64) : w.cell? ⟨gc, i, none⟩ = some (.int .i64 (own.getD i 0)) := by
  have hi2 : i < own.length := by rw [h.len]; exact hi
  rw [h.box.cell, List.getElem?_toArray, List.getElem?_map, List.getElem?_eq_getElem hi2, getD_at hi2]
  rfl
theorem CacheR.set (h : CacheR w gc own) (i : Nat) (x : Int) : CacheR (w.setCell ⟨gc, i, none⟩ (.int .i64 x)) gc (own.set i x) := by
  have := h.box.set i (.int .i64 x)
  refine ⟨?_, by rw [List.length_set]; exact h.len⟩
  rw [List.map_set]
  simpa using this
end
theorem held_r18 (gc i : Nat) (own : List Int) (w : World) (h : CacheR w gc own) (hi : i < 8) :
    Calls Try.prog 61 #[.pointer (some ⟨gc, 0, none⟩), .int .i64 i] w fun e w' => e = .returned (.int .u64 (heldP own i 64)) ∧ w = w' := by
  have H := Lib.hid h
  clear h
  go_enter Try.func61, Try.ntmps61
  go_wp2_with (fail)
  go_loopw [5, 6] (fun x k wr => ∃ c : Nat, c ≤ 64 ∧ k = .int .i64 c ∧ x = .int .u64 (heldP own i c) ∧ w = wr) (fun _ k _ => 64 - (intOf k).toNat)
  case atStart => exact ⟨0, by omega, rfl, rfl, rfl⟩
  case round =>
    obtain ⟨c, hc, rfl, rfl, rfl⟩ := hrel
    by_cases hlt : c < 64
    · have hca := H.out.at hlt
      have hst := heldP_step own i c
      have hor := held_or (heldP own i c) c hlt (heldP_lt own i c)
      have hwp : IntKind.u64.wrap (2 ^ c) = 2 ^ c := by
        have h := Nat.pow_lt_pow_right (show 1 < 2 by decide) hlt
        rw [show (2 ^ c : Int) = ((2 ^ c : Nat) : Int) by push_cast; rfl]
        exact u64_nat (by omega)
      have HWP := Lib.hid hwp
      clear hwp
      generalize heldP own i c = x0 at *
      generalize own.getD c 0 = o at *
      have HO := Lib.hid hor
      have HS := Lib.hid hst
      clear hor hst
      have hw1 : wrap64 ((i : Int) + 1) = i + 1 := by unfold wrap64; omega
      by_cases hd : o = i + 1
      · have hdd : (o == (i : Int) + 1) = true := by simp [hd]
        have HE : heldP own i (c + 1) = x0 ||| 2 ^ c := by rw [HS.out, if_pos hd]
        go_wp2_with (fail)
        exact ⟨⟨c + 1, hlt, rfl, by rw [HE, ← HO.out, HWP.out], (by first | trivial | rfl)⟩, by simp [intOf]; omega⟩
      · have hdd : (o == (i : Int) + 1) = false := by simp [hd]
        have HE : heldP own i (c + 1) = x0 := by rw [HS.out, if_neg hd]
        go_wp2_with (fail)
        exact ⟨⟨c + 1, hlt, rfl, by rw [HE], (by first | trivial | rfl)⟩, by simp [intOf]; omega⟩
    · obtain rfl : c = 64 := by omega
      go_wp2_with (fail)
      go_ret
      exact ⟨rfl, rfl⟩
theorem lost_r18 (gc i had : Nat) (own : List Int) (w : World) (h : CacheR w gc own) (hi : i < 8) (hh : had < 18446744073709551616) :
    Calls Try.prog 63 #[.pointer (some ⟨gc, 0, none⟩), .int .i64 i, .int .u64 had] w fun e w' => e = .returned (.int .u64 (lostO own i had)) ∧ w = w' := by
  have hH := held_r18 gc i own w h hi
  have hb := heldP_lt own i 64
  have hL := andnot_u64 had (heldP own i 64) hh hb
  have HL := Lib.hid hL
  have HH := Lib.hid hH
  clear hH hL
  go_enter Try.func63, Try.ntmps63
  go_wp2_with (fail)
  refine HH.out.mono ?_
  rintro e w1 ⟨rfl, rfl⟩
  go_wp2_with (fail)
  go_ret
  exact ⟨by rw [HL.out, heldP_all]; rfl, rfl⟩
def touchP (own : List Int) (v : Int) (x k : Nat) : List Int := own.mapIdx fun c o => if c < k ∧ x.testBit c = true then v else o
theorem touchP_zero (own : List Int) (v : Int) (x : Nat) : touchP own v x 0 = own := by
  refine List.ext_getElem (by simp [touchP]) fun i h1 h2 => ?_
  simp [touchP]
theorem touchP_step (own : List Int) (v : Int) (x : Nat) {k : Nat} (hk : k < own.length) : touchP own v x (k + 1) = if x.testBit k = true then (touchP own v x k).set k v else touchP own v x k := by
  cases hb : x.testBit k with
  | true =>
    rw [if_pos rfl]
    refine List.ext_getElem (by simp [touchP]) fun i h1 h2 => ?_
    simp only [List.getElem_set, touchP, List.getElem_mapIdx]
    by_cases e : k = i
    · subst e
      rw [if_pos rfl, if_pos ⟨by omega, hb⟩]
    · rw [if_neg e]
      by_cases h : i < k ∧ x.testBit i = true
      · rw [if_pos h, if_pos ⟨by omega, h.2⟩]
      · rw [if_neg h, if_neg (fun h' => h ⟨by omega, h'.2⟩)]
  | false =>
    rw [if_neg (by decide)]
    refine List.ext_getElem (by simp [touchP]) fun i h1 h2 => ?_
    simp only [touchP, List.getElem_mapIdx]
    by_cases h : i < k ∧ x.testBit i = true
    · rw [if_pos h, if_pos ⟨by omega, h.2⟩]
    · rw [if_neg h, if_neg (fun h' => h ⟨by
        have : i ≠ k := fun e => by rw [e, hb] at h'; cases h'.2
        omega, h'.2⟩)]
theorem touchP_all (own : List Int) (i : Int) (x : Nat) (hl : own.length = 64) : touchP own (i + 1) x 64 = touchO own i x := by
  unfold touchP touchO
  refine List.ext_getElem (by simp) fun c h1 h2 => ?_
  have hc : c < own.length := by simpa using h1
  simp only [List.getElem_mapIdx]
  by_cases h : x.testBit c = true
  · rw [if_pos ⟨by omega, h⟩, if_pos h]
  · rw [if_neg (fun h' => h h'.2), if_neg h]
theorem touch_r18 (gc i x : Nat) (own : List Int) (w : World) (h : CacheR w gc own) (hi : i < 8) (hx : x < 18446744073709551616) :
    Calls Try.prog 65 #[.pointer (some ⟨gc, 0, none⟩), .int .i64 i, .int .u64 x] w fun e w' => e = .returned (.bool true) ∧ CacheR w' gc (touchO own i x) ∧ Chg (fun q => q = gc) w w' := by
  have hal := touchP_all own i x h.len
  have hz := touchP_zero own (i + 1) x
  have H := Lib.hid h
  have HAL := Lib.hid hal
  have HZ := Lib.hid hz
  have hlen := h.len
  have HLEN := Lib.hid hlen
  clear h hal hz hlen
  go_enter Try.func65, Try.ntmps65
  go_wp2_with (fail)
  go_loopw [7] (fun k wr => ∃ c : Nat, c ≤ 64 ∧ k = .int .i64 c ∧ CacheR wr gc (touchP own (i + 1) x c) ∧ Chg (fun q => q = gc) w wr) (fun k _ => 64 - (intOf k).toNat)
  case atStart => exact ⟨0, by omega, rfl, by rw [HZ.out]; exact H.out, Chg.refl _ _⟩
  case round =>
    obtain ⟨c, hc, rfl, hA, hC⟩ := hrel
    by_cases hlt : c < 64
    · have hst := touchP_step own (i + 1) x (k := c) (by rw [HLEN.out]; exact hlt)
      have hca := hA.at hlt
      have hfa := hA.box.free c
      have hHas := has_any x c hlt hx wr
      have HS := Lib.hid hst
      have HH := Lib.hid hHas
      have HA := Lib.hid hA
      have hc64 : (c : Int) < 64 := by omega
      clear hst hA hHas
      have hw1 : wrap64 ((i : Int) + 1) = i + 1 := by unfold wrap64; omega
      go_wp2_with (fail)
      refine HH.out.mono ?_
      rintro e w1 ⟨rfl, rfl⟩
      cases hb : x.testBit c with
      | true =>
        have HE := Lib.hid (show touchP own (i + 1) x (c + 1) = (touchP own (i + 1) x c).set c (i + 1) by rw [HS.out, if_pos hb])
        go_wp2_with (fail)
        exact ⟨⟨c + 1, hlt, rfl, by rw [HE.out]; exact HA.out.set c _, hC.set (.inl rfl) _⟩, by simp [intOf]; omega⟩
      | false =>
        have HE := Lib.hid (show touchP own (i + 1) x (c + 1) = touchP own (i + 1) x c by rw [HS.out, if_neg (by rw [hb]; simp)])
        go_wp2_with (fail)
        exact ⟨⟨c + 1, hlt, rfl, by rw [HE.out]; exact HA.out, hC⟩, by simp [intOf]; omega⟩
    · obtain rfl : c = 64 := by omega
      go_wp2_with (fail)
      go_ret
      exact ⟨rfl, by rw [← HAL.out]; exact hA, hC⟩
end Go.Proofs.Ytlaflbepidkmnaa
/- The document's table (ref21). -/
namespace Go.Proofs.Ytlaflbepidkmnaa
open Go.RowKit
attribute [local go_sem] setCell_twice ByteArray.toList_eq str_list Ext.alloc Ext.drew
set_option linter.unusedSimpArgs false
set_option linter.unusedVariables false
set_option maxRecDepth 100000
set_option maxHeartbeats 1600000
attribute [local irreducible] Calls

theorem has_r21 (gt g : Nat) (tab : List St) (i : Int) (w : World) (h : TabAt 95 w gt g tab) :
    Calls Try.prog 76 #[.pointer (some ⟨gt, 0, none⟩), .int .i64 i] w fun e w' => e = .returned (.bool (hasB tab i)) ∧ w = w' := by
  have hc := h.box.cell
  have hl := h.len
  rcases int_cases i tab.length with hi | ⟨k, rfl, hk⟩ | ⟨k, rfl, hk⟩
  · have HE := Lib.hid (hasB_neg tab hi)
    have hd : decide (0 ≤ i) = false := decide_eq_false (by omega)
    go_enter Try.func76, Try.ntmps76
    go_wp2_with (fail)
    go_ret
    exact ⟨by rw [HE.out]; rfl, by first | trivial | rfl⟩
  · have HE := Lib.hid (hasB_nat tab k)
    obtain ⟨h0, h1, h2, h3⟩ := h.cells hk
    clear h1 h2 h3
    generalize (stAt tab k).pend = p at h0 HE
    go_enter Try.func76, Try.ntmps76
    go_wp2_with (fail)
    go_ret
    exact ⟨by rw [HE.out]; rfl, by first | trivial | rfl⟩
  · have HE := Lib.hid (show hasB tab k = false by rw [hasB_nat, stAt_out hk]; rfl)
    go_enter Try.func76, Try.ntmps76
    go_wp2_with (fail)
    go_ret
    exact ⟨by rw [HE.out]; rfl, by first | trivial | rfl⟩
theorem begin_r21 (gt g : Nat) (tab : List St) (k : Nat) (w : World) (h : TabAt 95 w gt g tab) (hk : k < tab.length) :
    Calls Try.prog 62 #[.pointer (some ⟨gt, 0, none⟩), .int .i64 k] w fun e w' => e = .returned (.bool (stAt tab k).pend) ∧ TabAt 95 w' gt g (modT tab k (fun x => { x with start := true })) ∧ Chg (fun q => q = g) w w' := by
  have hH := has_r21 gt g tab k w h
  rw [hasB_nat] at hH
  have hc := h.box.cell
  have hf := h.row.free
  have hl := h.len
  have he : stAt tab k = tab[k] := by unfold stAt; rw [getD_at hk]
  have hne : gt ≠ g := h.box.apart (show Blk w g _ _ from h.row) (by decide)
  cases hb : (stAt tab k).pend with
  | false =>
    rw [hb] at hH
    have HH := Lib.hid hH
    have HM := Lib.hid (modT_off (fun x => { x with start := true }) hb)
    clear hH hb he
    go_enter Try.func62, Try.ntmps62
    go_wp2_with (fail)
    refine HH.out.mono ?_
    rintro e w1 ⟨rfl, rfl⟩
    go_wp2_with (fail)
    go_ret
    exact ⟨rfl, by rw [HM.out]; exact h, Chg.refl _ _⟩
  | true =>
    rw [hb] at hH
    have HH := Lib.hid hH
    have HM := Lib.hid (modT_on (fun x => { x with start := true }) hb)
    have HE := Lib.hid he
    obtain ⟨h0, h1, h2, h3⟩ := h.cells hk
    have H := Lib.hid h
    clear hH hb he h
    generalize (stAt tab k).pend = q0 at h0
    generalize (stAt tab k).start = q1 at h1
    generalize (stAt tab k).mid = q2 at h2
    generalize (stAt tab k).arr = q3 at h3
    go_enter Try.func62, Try.ntmps62
    go_wp2_with (fail)
    refine HH.out.mono ?_
    rintro e w1 ⟨rfl, rfl⟩
    go_wp2_with (fail)
    go_ret
    refine ⟨rfl, ?_, ?_⟩
    · rw [HM.out]
      refine ⟨?_, ?_, by rw [List.length_set]; exact H.out.len⟩
      · rw [List.length_set]
        exact H.out.box.far (p := ⟨g, k * 4 + 1, none⟩) hne _
      · exact H.out.row.set encSt_len (j := 1) (by decide) (fun _ => by rw [HE.out]; rfl)
    · exact (Chg.refl (fun q => q = g) w).set (.inl rfl) _
theorem mid_r21 (gt g : Nat) (tab : List St) (k : Nat) (b : Bool) (w : World) (h : TabAt 95 w gt g tab) (hk : k < tab.length) :
    Calls Try.prog 68 #[.pointer (some ⟨gt, 0, none⟩), .int .i64 k, .bool b] w fun e w' => e = .returned (.bool (stAt tab k).pend) ∧ TabAt 95 w' gt g (modT tab k (fun x => { x with mid := b })) ∧ Chg (fun q => q = g) w w' := by
  have hH := has_r21 gt g tab k w h
  rw [hasB_nat] at hH
  have hc := h.box.cell
  have hf := h.row.free
  have hl := h.len
  have he : stAt tab k = tab[k] := by unfold stAt; rw [getD_at hk]
  have hne : gt ≠ g := h.box.apart (show Blk w g _ _ from h.row) (by decide)
  cases hb : (stAt tab k).pend with
  | false =>
    rw [hb] at hH
    have HH := Lib.hid hH
    have HM := Lib.hid (modT_off (fun x => { x with mid := b }) hb)
    clear hH hb he
    go_enter Try.func68, Try.ntmps68
    go_wp2_with (fail)
    refine HH.out.mono ?_
    rintro e w1 ⟨rfl, rfl⟩
    go_wp2_with (fail)
    go_ret
    exact ⟨rfl, by rw [HM.out]; exact h, Chg.refl _ _⟩
  | true =>
    rw [hb] at hH
    have HH := Lib.hid hH
    have HM := Lib.hid (modT_on (fun x => { x with mid := b }) hb)
    have HE := Lib.hid he
    obtain ⟨h0, h1, h2, h3⟩ := h.cells hk
    have H := Lib.hid h
    clear hH hb he h
    generalize (stAt tab k).pend = q0 at h0
    generalize (stAt tab k).start = q1 at h1
    generalize (stAt tab k).mid = q2 at h2
    generalize (stAt tab k).arr = q3 at h3
    go_enter Try.func68, Try.ntmps68
    go_wp2_with (fail)
    refine HH.out.mono ?_
    rintro e w1 ⟨rfl, rfl⟩
    go_wp2_with (fail)
    go_ret
    refine ⟨rfl, ?_, ?_⟩
    · rw [HM.out]
      refine ⟨?_, ?_, by rw [List.length_set]; exact H.out.len⟩
      · rw [List.length_set]
        exact H.out.box.far (p := ⟨g, k * 4 + 2, none⟩) hne _
      · exact H.out.row.set encSt_len (j := 2) (by decide) (fun _ => by rw [HE.out]; rfl)
    · exact (Chg.refl (fun q => q = g) w).set (.inl rfl) _
theorem drop_r21 (gt g : Nat) (tab : List St) (k : Nat) (w : World) (h : TabAt 95 w gt g tab) (hk : k < tab.length) :
    Calls Try.prog 79 #[.pointer (some ⟨gt, 0, none⟩), .int .i64 k] w fun e w' => e = .returned (.bool (stAt tab k).pend) ∧ TabAt 95 w' gt g (modT tab k (fun _ => St.zero)) ∧ Chg (fun q => q = g) w w' := by
  have hH := has_r21 gt g tab k w h
  rw [hasB_nat] at hH
  have hc := h.box.cell
  have hf := h.row.free
  have hl := h.len
  have he : stAt tab k = tab[k] := by unfold stAt; rw [getD_at hk]
  have hne : gt ≠ g := h.box.apart (show Blk w g _ _ from h.row) (by decide)
  cases hb : (stAt tab k).pend with
  | false =>
    rw [hb] at hH
    have HH := Lib.hid hH
    have HM := Lib.hid (modT_off (fun _ => St.zero) hb)
    clear hH hb he
    go_enter Try.func79, Try.ntmps79
    go_wp2_with (fail)
    refine HH.out.mono ?_
    rintro e w1 ⟨rfl, rfl⟩
    go_wp2_with (fail)
    go_ret
    exact ⟨rfl, by rw [HM.out]; exact h, Chg.refl _ _⟩
  | true =>
    rw [hb] at hH
    have HH := Lib.hid hH
    have HM := Lib.hid (modT_on (fun _ => St.zero) hb)
    have HE := Lib.hid he
    obtain ⟨h0, h1, h2, h3⟩ := h.cells hk
    have H := Lib.hid h
    clear hH hb he h
    generalize (stAt tab k).pend = q0 at h0
    generalize (stAt tab k).start = q1 at h1
    generalize (stAt tab k).mid = q2 at h2
    generalize (stAt tab k).arr = q3 at h3
    go_enter Try.func79, Try.ntmps79
    go_wp2_with (fail)
    refine HH.out.mono ?_
    rintro e w1 ⟨rfl, rfl⟩
    go_wp2_with (fail)
    go_ret
    refine ⟨rfl, ?_, ?_⟩
    · rw [HM.out]
      refine ⟨?_, ?_, by rw [List.length_set]; exact H.out.len⟩
      · rw [List.length_set]
        exact (((H.out.box.far (p := ⟨g, k * 4, none⟩) hne _).far (p := ⟨g, k * 4 + 1, none⟩) hne _).far (p := ⟨g, k * 4 + 2, none⟩) hne _).far (p := ⟨g, k * 4 + 3, none⟩) hne _
      · exact row_all H.out.row hk St.zero
    · exact ((((Chg.refl (fun q => q = g) w).set (.inl rfl) _).set (.inl rfl) _).set (.inl rfl) _).set (.inl rfl) _
theorem put_r21 (gt g : Nat) (tab : List St) (k : Nat) (tick : Int) (w : World) (h : TabAt 95 w gt g tab) (hk : k < tab.length) :
    Calls Try.prog 55 #[.pointer (some ⟨gt, 0, none⟩), .int .i64 k, .int .i64 tick] w fun e w' => e = .returned (.bool (!(stAt tab k).pend)) ∧ TabAt 95 w' gt g (if (stAt tab k).pend = true then tab else tab.set k ⟨true, false, false, tick⟩) ∧ Chg (fun q => q = g) w w' := by
  have hH := has_r21 gt g tab k w h
  rw [hasB_nat] at hH
  have hc := h.box.cell
  have hf := h.row.free
  have hl := h.len
  have hne : gt ≠ g := h.box.apart (show Blk w g _ _ from h.row) (by decide)
  have hd : decide ((tab.length : Int) ≤ (k : Int)) = false := decide_eq_false (by omega)
  cases hb : (stAt tab k).pend with
  | true =>
    rw [hb] at hH
    have HH := Lib.hid hH
    have H := Lib.hid h
    rw [if_pos rfl]
    clear hH hb h
    go_enter Try.func55, Try.ntmps55
    go_wp2_with (fail)
    refine HH.out.mono ?_
    rintro e w1 ⟨rfl, rfl⟩
    go_wp2_with (fail)
    go_ret
    exact ⟨rfl, H.out, Chg.refl _ _⟩
  | false =>
    rw [hb] at hH
    have HH := Lib.hid hH
    obtain ⟨h0, h1, h2, h3⟩ := h.cells hk
    have H := Lib.hid h
    rw [if_neg (by decide)]
    clear hH hb h
    generalize (stAt tab k).pend = q0 at h0
    generalize (stAt tab k).start = q1 at h1
    generalize (stAt tab k).mid = q2 at h2
    generalize (stAt tab k).arr = q3 at h3
    go_enter Try.func55, Try.ntmps55
    go_wp2_with (fail)
    refine HH.out.mono ?_
    rintro e w1 ⟨rfl, rfl⟩
    go_wp2_with (fail)
    go_ret
    refine ⟨rfl, ⟨?_, ?_, by rw [List.length_set]; exact H.out.len⟩, ?_⟩
    · rw [List.length_set]
      exact (((H.out.box.far (p := ⟨g, k * 4, none⟩) hne _).far (p := ⟨g, k * 4 + 1, none⟩) hne _).far (p := ⟨g, k * 4 + 2, none⟩) hne _).far (p := ⟨g, k * 4 + 3, none⟩) hne _
    · exact row_all H.out.row hk ⟨true, false, false, tick⟩
    · exact ((((Chg.refl (fun q => q = g) w).set (.inl rfl) _).set (.inl rfl) _).set (.inl rfl) _).set (.inl rfl) _
theorem new_r21 (n : Nat) (w : World) (hn : 1 ≤ n ∧ n ≤ 8) :
    Calls Try.prog 35 #[.int .i64 n] w fun e w' => ∃ gt g, e = .returned (.pointer (some ⟨gt, 0, none⟩)) ∧ TabAt 95 w' gt g (List.replicate n St.zero) ∧ w.heap.size ≤ gt ∧ w.heap.size ≤ g ∧ Ext w w' := by
  have hmk := make_st hn.2 w
  have hd1 : decide ((n : Int) < 1) = false := decide_eq_false (by omega)
  have hd2 : decide ((8 : Int) < (n : Int)) = false := decide_eq_false (by omega)
  have HN := Lib.hid hn
  clear hn
  have hl : (List.replicate n St.zero).length = n := List.length_replicate
  have HL := Lib.hid hl
  clear hl
  generalize List.replicate n St.zero = zs at hmk HL ⊢
  generalize hcs : (zs.flatMap encSt).toArray = cs at hmk
  have HCS := Lib.hid hcs
  clear hcs
  go_enter Try.func35, Try.ntmps35
  go_wp2_with (fail)
  go_ret
  refine ⟨_, _, rfl, ⟨?_, ?_, by rw [HL.out]; exact HN.out.2⟩, ?_, Nat.le_refl _, ((Ext.refl w).alloc _).alloc _⟩
  · rw [HL.out]
    exact Blk.new_at _ _ _ _ (by simp)
  · show Blk _ _ (zs.flatMap encSt).toArray _
    rw [HCS.out]
    exact (Blk.new _ _ _).alloc _
  · simp
end Go.Proofs.Ytlaflbepidkmnaa
/- The document's choice of who runs (ref24, ref21.Oldest). -/
namespace Go.Proofs.Ytlaflbepidkmnaa
open Go.RowKit
attribute [local go_sem] setCell_twice ByteArray.toList_eq str_list Ext.alloc Ext.drew
set_option linter.unusedSimpArgs false
set_option linter.unusedVariables false
set_option maxRecDepth 100000
set_option maxHeartbeats 1600000
attribute [local irreducible] Calls

theorem there_r24 (vl : Value) (tab : List St) (i : Int) (w : World) (hl : SlR StR 4 Any w vl tab) :
    Calls Try.prog 59 #[vl, .int .i64 i] w fun e w' => e = .returned (.bool (hasB tab i)) ∧ Below w.heap.size w w' := by
  obtain ⟨Al, cl, rfl, _, _⟩ := hl.form
  rcases int_cases i tab.length with hi | ⟨k, rfl, hk⟩ | ⟨k, rfl, hk⟩
  · have HE := Lib.hid (hasB_neg tab hi)
    have hd : decide (0 ≤ i) = false := decide_eq_false (by omega)
    clear hl
    go_enter Try.func59, Try.ntmps59
    go_wp2_with (fail)
    go_ret
    exact ⟨by rw [HE.out]; rfl, Below.refl _ _⟩
  · have HE := Lib.hid (hasB_nat tab k)
    obtain ⟨b, o, rfl, hx⟩ := sts_at hl hk
    have hx0 := (hx _ (Ext.refl w)).1
    clear hx hl
    generalize (stAt tab k).pend = p at hx0 HE
    go_enter Try.func59, Try.ntmps59
    go_wp2_with (fail)
    go_ret
    exact ⟨by rw [HE.out]; rfl, Below.refl _ _⟩
  · have HE := Lib.hid (show hasB tab k = false by rw [hasB_nat, stAt_out hk]; rfl)
    have hd : decide ((k : Int) < (tab.length : Int)) = false := decide_eq_false (by omega)
    clear hl
    go_enter Try.func59, Try.ntmps59
    go_wp2_with (fail)
    go_ret
    exact ⟨by rw [HE.out]; rfl, Below.refl _ _⟩
theorem rank_r24 (s : TSet) (vt vl : Value) (tab : List St) (k : Nat) (w : World) (hv : Tasks w vt s.tasks) (hl : SlR StR 4 Any w vl tab) (hn : tab.length = s.tasks.length) (hk : k < tab.length) :
    Calls Try.prog 60 #[setV s vt, vl, .int .i64 k] w fun e w' => e = .returned (.int .i64 (rankS s tab k)) ∧ Below w.heap.size w w' := by
  obtain ⟨A, c, rfl, _, _⟩ := id hv
  obtain ⟨Al, cl, rfl, _, _⟩ := hl.form
  have hA := (Ext.refl w).alloc (.cells #[.int .i64 s.reload, .slice A s.tasks.length c] 24)
  have hI := there_r24 (.slice Al tab.length cl) tab k _ (hl.extT hA)
  rw [hasB_nat] at hI
  have hks : k < s.tasks.length := by omega
  clear hn
  obtain ⟨b, o, rfl, hx⟩ := sts_at hl hk
  obtain ⟨b2, o2, r, rfl, ht⟩ := hv.at hks
  have ht := ht.ext hA
  rw [← tk_at s hks] at ht
  obtain ⟨x0, x1, x2, x3, x4, x5, x6, x7, x8⟩ := ht.under
  have hx := hx _ hA
  have hBx : Blk (w.alloc (.cells #[.int .i64 s.reload, .slice (some ⟨b2, o2, none⟩) s.tasks.length c] 24)) w.heap.size #[.int .i64 s.reload, .slice (some ⟨b2, o2, none⟩) s.tasks.length c] 24 := Blk.new _ _ _
  have hcx := hBx.under
  have hxs : ∀ w', Ext (w.alloc (.cells #[.int .i64 s.reload, .slice (some ⟨b2, o2, none⟩) s.tasks.length c] 24)) w' → w'.cell? ⟨b, o + k * 4 + 1, none⟩ = some (.bool (stAt tab k).start) := fun w' h => h.cell hx.2.1
  have hr : rankS s tab k = if (stAt tab k).pend = true then (if (s.tk k).mode = 2 ∧ (stAt tab k).start = true then (s.tk k).theta else (k : Int)) else -1 := rfl
  have hab : Below w.heap.size w (w.alloc (.cells #[.int .i64 s.reload, .slice (some ⟨b2, o2, none⟩) s.tasks.length c] 24)) := (by repeat (first | exact Below.refl _ _ | assumption | refine Below.drew ?_ | refine Below.alloc ?_ (by first | (simp; done) | (simp; omega) | omega) _ | refine Below.setCell ?_ (by first | (simp; done) | (simp; omega) | omega) _))
  have hsz : w.heap.size ≤ (w.alloc (.cells #[.int .i64 s.reload, .slice (some ⟨b2, o2, none⟩) s.tasks.length c] 24)).heap.size := by rw [size_alloc]; omega
  have HR := Lib.hid hr
  clear hr hx ht hv hl hA
  generalize rankS s tab k = rk at HR ⊢
  generalize (s.tk k).mode = m at x3 HR
  generalize (s.tk k).theta = th at x5 HR
  generalize (stAt tab k).pend = p at hI HR
  generalize (stAt tab k).start = st at hxs HR
  clear x0 x1 x2 x4 x6 x7 x8
  go_enter Try.func60, Try.ntmps60
  unfold setV
  go_upto_region 1 with (fail)
  generalize w.alloc _ = W at hI x3 x5 hBx hcx hxs hab hsz ⊢
  have hcW := hcx W (Ext.refl W)
  go_wp2_with (fail)
  refine hI.mono ?_
  rintro e w1 ⟨rfl, hb1⟩
  have hX1 : Ext W w1 := ⟨hb1⟩
  have hc1 := hcx w1 hX1
  have x31 := x3 w1 hX1
  have x51 := x5 w1 hX1
  have hs1 := hxs w1 hX1
  have hbl : Below w.heap.size w w1 := hab.trans (hb1.mono hsz)
  clear hI hcW hcx x3 x5 hxs
  cases p with
  | false =>
    go_wp2_with (fail)
    go_ret
    exact ⟨by rw [HR.out]; rfl, hbl⟩
  | true =>
    by_cases hm : m = 2
    · cases st with
      | true =>
        have hb : (m == 2) = true := by simpa using hm
        have HE := Lib.hid (show rk = th by rw [HR.out]; simp [hm])
        clear hm
        go_wp2_with (fail)
        go_ret
        exact ⟨by rw [HE.out]; rfl, hbl⟩
      | false =>
        have hb : (m == 2) = true := by simpa using hm
        have HE := Lib.hid (show rk = k by rw [HR.out]; simp)
        clear hm
        go_wp2_with (fail)
        go_ret
        exact ⟨by rw [HE.out]; rfl, hbl⟩
    · have hb : (m == 2) = false := by simpa using hm
      have HE := Lib.hid (show rk = k by rw [HR.out]; simp [hm])
      clear hm
      go_wp2_with (fail)
      go_ret
      exact ⟨by rw [HE.out]; rfl, hbl⟩
theorem oldest_r21 (vl : Value) (tab : List St) (n : Nat) (w : World) (hl : SlR StR 4 Any w vl tab) (hn : n ≤ tab.length) (ha : ArrOk tab) :
    Calls Try.prog 77 #[vl, .int .i64 n] w fun e w' => e = .returned (.tuple #[.int .i64 ((oldS (tab.take n)).getD 0), .bool (oldS (tab.take n)).isSome]) ∧ Below w.heap.size w w' := by
  obtain ⟨Al, cl, rfl, hle, hcm⟩ := hl.form
  unfold maxLen at hcm
  obtain ⟨r, hr⟩ : ∃ r, oldS (tab.take n) = r := ⟨_, rfl⟩
  rw [hr]
  have HR := Lib.hid hr
  clear hr ha
  go_enter Try.func77, Try.ntmps77
  go_wp2_with (fail)
  go_loopw [6, 7, 8] (fun u p i wr => ∃ (k : Nat) (o : Option Int), k ≤ n ∧ u = .int .i64 (o.getD 0) ∧ p = .bool o.isSome ∧ i = .int .i64 k ∧ Hid (o = oldS (tab.take k)) ∧ w = wr) (fun _ _ i _ => n - (intOf i).toNat)
  case atStart => exact ⟨0, none, Nat.zero_le _, rfl, rfl, rfl, Lib.hid rfl, rfl⟩
  case round =>
    obtain ⟨k, o, hk, rfl, rfl, rfl, ho, rfl⟩ := hrel
    by_cases hlt : k < n
    · have hkt : k < tab.length := by omega
      obtain ⟨b, of, rfl, hx⟩ := sts_at hl hkt
      obtain ⟨h0, h1, h2, h3⟩ := hx w (Ext.refl w)
      have hst : oldS (tab.take (k + 1)) = stepO o (stAt tab k) := by rw [ho.out]; exact old_step tab hkt
      have HST := Lib.hid hst
      clear hst hx hl
      generalize stAt tab k = x at h0 h1 h2 h3 HST
      obtain ⟨pe, st, mi, ar⟩ := x
      dsimp only at h0 h1 h2 h3
      unfold stepO at HST
      dsimp only at HST
      cases pe with
      | false =>
        have hs2 := Lib.hid (show o = oldS (tab.take (k + 1)) by rw [HST.out]; simp)
        go_wp2_with (fail)
        exact ⟨⟨k + 1, o, hlt, rfl, rfl, rfl, hs2, (by first | trivial | rfl)⟩, by simp [intOf]; omega⟩
      | true =>
        cases o with
        | none =>
          have hs2 := Lib.hid (show some ar = oldS (tab.take (k + 1)) by rw [HST.out]; simp)
          simp only [Option.getD_none, Option.isSome_none]
          go_wp2_with (fail)
          exact ⟨⟨k + 1, some ar, hlt, rfl, rfl, rfl, hs2, (by first | trivial | rfl)⟩, by simp [intOf]; omega⟩
        | some a =>
          simp only [Option.getD_some, Option.isSome_some]
          by_cases hc : ar < a
          · have hs2 := Lib.hid (show some ar = oldS (tab.take (k + 1)) by rw [HST.out]; simp [hc])
            go_wp2_with (fail)
            exact ⟨⟨k + 1, some ar, hlt, rfl, rfl, rfl, hs2, (by first | trivial | rfl)⟩, by simp [intOf]; omega⟩
          · have hs2 := Lib.hid (show some a = oldS (tab.take (k + 1)) by rw [HST.out]; simp [hc])
            have hcd : decide (ar < a) = false := decide_eq_false hc
            go_wp2_with (fail)
            exact ⟨⟨k + 1, some a, hlt, rfl, rfl, rfl, hs2, (by first | trivial | rfl)⟩, by simp [intOf]; omega⟩
    · obtain rfl : k = n := by omega
      have hro : o = r := ho.out.trans HR.out
      subst hro
      go_wp2_with (fail)
      refine bodyPost_ret (v := .tuple #[.int .i64 (o.getD 0), .bool o.isSome]) (by simp [results, Try.results77, go_sem, *]) rfl ⟨rfl, Below.refl _ _⟩
theorem held_r24 (s : TSet) (vt vl : Value) (tab : List St) (i tick : Int) (w : World) (hv : Tasks w vt s.tasks) (hl : SlR StR 4 Any w vl tab) (hn : tab.length = s.tasks.length) (ha : ArrOk tab) (hq : ∀ k, k < s.tasks.length → 0 ≤ (s.tk k).q ∧ (s.tk k).q ≤ 10000) :
    Calls Try.prog 58 #[setV s vt, vl, .int .i64 i, .int .i64 tick] w fun e w' => e = .returned (.bool (heldS s tab i tick)) ∧ Below w.heap.size w w' := by
  obtain ⟨A, c, rfl, _, _⟩ := id hv
  obtain ⟨Al, cl, rfl, hcl, hcm⟩ := hl.form
  unfold maxLen at hcm
  have hA := (Ext.refl w).alloc (.cells #[.int .i64 s.reload, .slice A s.tasks.length c] 24)
  have hI := there_r24 (.slice Al tab.length cl) tab i _ (hl.extT hA)
  have hB : Blk (w.alloc (.cells #[.int .i64 s.reload, .slice A s.tasks.length c] 24)) w.heap.size #[.int .i64 s.reload, .slice A s.tasks.length c] 24 := Blk.new _ _ _
  have hab : Below w.heap.size w (w.alloc (.cells #[.int .i64 s.reload, .slice A s.tasks.length c] 24)) := (by repeat (first | exact Below.refl _ _ | assumption | refine Below.drew ?_ | refine Below.alloc ?_ (by first | (simp; done) | (simp; omega) | omega) _ | refine Below.setCell ?_ (by first | (simp; done) | (simp; omega) | omega) _))
  have hv2 := hv.ext hA
  have hl2 := hl.extT hA
  have hsz := hA.size
  have HI := Lib.hid hI
  have HN := Lib.hid hn
  clear hI hv hl hA hn
  cases hb : hasB tab i with
  | false =>
    have HE := Lib.hid (show heldS s tab i tick = false by
      unfold hasB at hb
      unfold heldS
      cases h1 : decide (0 ≤ i) with
      | false => rfl
      | true => rw [h1] at hb; rw [Bool.true_and] at hb; rw [hb]; rfl)
    rw [hb] at HI
    clear hb
    go_enter Try.func58, Try.ntmps58
    unfold setV
    go_upto_region 1 with (fail)
    generalize w.alloc _ = W at HI hB hab hsz hv2 hl2 ⊢
    have hcW := hB.cell
    go_wp2_with (fail)
    refine HI.out.mono ?_
    rintro e w1 ⟨rfl, hb1⟩
    go_wp2_with (fail)
    go_ret
    exact ⟨by rw [HE.out]; rfl, hab.trans (hb1.mono hsz)⟩
  | true =>
    obtain ⟨k, rfl, hk⟩ : ∃ k : Nat, i = k ∧ k < tab.length := by
      rcases int_cases i tab.length with hi | h | ⟨k, rfl, hk⟩
      · rw [hasB_neg tab hi] at hb; cases hb
      · exact h
      · rw [hasB_nat, stAt_out hk] at hb; cases hb
    have hks : k < s.tasks.length := by rw [← HN.out]; exact hk
    have HH := Lib.hid (held_nat s tab k tick)
    rw [hasB_nat] at hb
    rw [hasB_nat, hb] at HI
    rw [hb, Bool.true_and] at HH
    have hqk := hq k hks
    have hw := fun W' (h : Ext (w.alloc (.cells #[.int .i64 s.reload, .slice A s.tasks.length c] 24)) W') => oldest_r21 (.slice Al tab.length cl) tab k W' (hl2.extT h) (Nat.le_of_lt hk) ha
    have HW := Lib.hid hw
    have hob : ∀ a, oldS (tab.take k) = some a → 0 ≤ a ∧ a ≤ 1099511627776 := fun a hoa => by
      obtain ⟨⟨j, hj1, hj2⟩, _⟩ := (old_some (Nat.le_of_lt hk)).1 hoa
      have hw1 := was_pend hj2
      rcases ha j (by omega) with h | h
      · rw [hw1.2] at h; exact h
      · rw [hw1.1] at h; cases h
    have HOB := Lib.hid hob
    have hwb : waitsB (tab.take k) (s.tk k).q tick = match oldS (tab.take k) with | some a => decide (tick < a + (s.tk k).q) | none => false := rfl
    have HWB := Lib.hid hwb
    clear hw hb ha hq hob hwb
    obtain ⟨b, o, rfl, hx⟩ := sts_at hl2 hk
    obtain ⟨b2, o2, r, rfl, ht⟩ := hv2.at hks
    rw [← tk_at s hks] at ht
    obtain ⟨x0, x1, x2, x3, x4, x5, x6, x7, x8⟩ := ht.under
    have hxs := fun w' h => (hx w' h).2.1
    have hxm := fun w' h => (hx w' h).2.2.1
    clear x0 x1 x2 x5 x6 x7 x8 ht hx hl2 hv2
    generalize (s.tk k).mode = m at x3 HH
    generalize (s.tk k).q = qk at x4 HH HWB hqk
    generalize (stAt tab k).start = st at hxs HH
    generalize (stAt tab k).mid = mi at hxm HH
    generalize oldS (tab.take k) = od at HW HOB HWB
    generalize waitsB (tab.take k) qk tick = wb at HH HWB
    have hcx := hB.under
    have hi1 : k ≤ cl := by omega
    go_enter Try.func58, Try.ntmps58
    unfold setV
    go_upto_region 1 with (fail)
    generalize w.alloc _ = W at HI hB hab hsz hcx hxs hxm x3 x4 HW ⊢
    have hcW := hcx W (Ext.refl W)
    go_wp2_with (fail)
    refine HI.out.mono ?_
    rintro e w1 ⟨rfl, hb1⟩
    have hX1 : Ext W w1 := ⟨hb1⟩
    have hbl : Below w.heap.size w w1 := hab.trans (hb1.mono hsz)
    have hc1 := hcx w1 hX1
    have s1 := hxs w1 hX1
    have m1 := hxm w1 hX1
    have x31 := x3 w1 hX1
    have x41 := x4 w1 hX1
    clear hcW
    cases st with
    | false =>
      go_wp2_with (fail)
      go_ret
      exact ⟨by rw [HH.out]; rfl, hbl⟩
    | true =>
      rw [Bool.true_and] at HH
      by_cases hm0 : m = 0
      · have HE := Lib.hid (show heldS s tab k tick = mi by rw [HH.out, if_pos hm0])
        have hb : (m == 0) = true := by simpa using hm0
        clear hm0 HH
        go_wp2_with (fail)
        go_ret
        exact ⟨by rw [HE.out]; rfl, hbl⟩
      · have hb : (m == 0) = false := by simpa using hm0
        rw [if_neg hm0] at HH
        by_cases hm1 : m = 1
        · have HE := Lib.hid (show heldS s tab k tick = wb by rw [HH.out, if_pos hm1])
          have hb1 : (m == 1) = true := by simpa using hm1
          clear hm0 hm1 HH
          go_upto_region 7 with (fail)
          clear x31 hc1 s1 m1 hxs hxm x3
          go_wp2_with (fail)
          refine (HW.out w1 hX1).mono ?_
          rintro e w2 ⟨rfl, hb2⟩
          have hX2 := hX1.trans ⟨hb2⟩
          have x42 := x4 w2 hX2
          have hc2 := hcx w2 hX2
          have hbl2 := hab.trans (hX2.below.mono hsz)
          clear x41
          cases od with
          | none =>
            have hwf : wb = false := HWB.out
            rw [hwf] at HE
            simp only [Option.getD_none, Option.isSome_none]
            go_wp2_with (fail)
            go_ret
            exact ⟨by rw [HE.out]; rfl, hbl2⟩
          | some a =>
            have hwf : wb = decide (tick < a + qk) := HWB.out
            rw [hwf] at HE
            have hao := HOB.out a rfl
            have hwr : IntKind.i64.wrap (a + qk) = a + qk := by rw [IntKind.wrap_i64]; omega
            have hwr2 : wrap64 (a + qk) = a + qk := by unfold wrap64; omega
            simp only [Option.getD_some, Option.isSome_some]
            go_wp2_with (fail)
            go_ret
            exact ⟨by rw [HE.out]; rfl, hbl2⟩
        · have hb1 : (m == 1) = false := by simpa using hm1
          have HE := Lib.hid (show heldS s tab k tick = false by rw [HH.out, if_neg hm1])
          clear hm0 hm1 HH
          go_wp2_with (fail)
          go_ret
          exact ⟨by rw [HE.out]; rfl, hbl⟩
theorem choose_r24 (s : TSet) (vt vl : Value) (tab : List St) (i tick : Int) (w : World) (hv : Tasks w vt s.tasks) (hl : SlR StR 4 Any w vl tab) (hn : tab.length = s.tasks.length) (ha : ArrOk tab) (hq : ∀ k, k < s.tasks.length → 0 ≤ (s.tk k).q ∧ (s.tk k).q ≤ 10000) :
    Calls Try.prog 39 #[setV s vt, vl, .int .i64 i, .int .i64 tick] w fun e w' => e = .returned (.int .i64 (chooseS s tab i tick)) ∧ Below w.heap.size w w' := by
  obtain ⟨A, c, rfl, hcc, hcm⟩ := id hv
  obtain ⟨Al, cl, rfl, _, _⟩ := hl.form
  unfold maxLen at hcm
  have hcm := hcm.1
  have hA := (Ext.refl w).alloc (.cells #[.int .i64 s.reload, .slice A s.tasks.length c] 24)
  have hv2 := hv.ext hA
  have hl2 := hl.extT hA
  have hH := held_r24 s (.slice A s.tasks.length c) (.slice Al tab.length cl) tab i tick _ hv2 hl2 hn ha hq
  have HI := Lib.hid fun (j : Int) W' (h : Ext (w.alloc (.cells #[.int .i64 s.reload, .slice A s.tasks.length c] 24)) W') => there_r24 (.slice Al tab.length cl) tab j W' (hl2.extT h)
  have HR := Lib.hid fun (k : Nat) (hk : k < tab.length) W' (h : Ext (w.alloc (.cells #[.int .i64 s.reload, .slice A s.tasks.length c] 24)) W') => rank_r24 s (.slice A s.tasks.length c) (.slice Al tab.length cl) tab k W' (hv2.ext h) (hl2.extT h) hn hk
  unfold setV at hH HR
  have HHH := Lib.hid hH
  have hB : Blk (w.alloc (.cells #[.int .i64 s.reload, .slice A s.tasks.length c] 24)) w.heap.size #[.int .i64 s.reload, .slice A s.tasks.length c] 24 := Blk.new _ _ _
  have hab : Below w.heap.size w (w.alloc (.cells #[.int .i64 s.reload, .slice A s.tasks.length c] 24)) := (by repeat (first | exact Below.refl _ _ | assumption | refine Below.drew ?_ | refine Below.alloc ?_ (by first | (simp; done) | (simp; omega) | omega) _ | refine Below.setCell ?_ (by first | (simp; done) | (simp; omega) | omega) _))
  have hsz := hA.size
  have HN := Lib.hid hn
  have hln : s.tasks.length ≤ 9223372036854775807 := by omega
  have htl : (tab.length : Int) = (s.tasks.length : Int) := by omega
  have hcx := hB.under
  have HCH := Lib.hid (show chooseS s tab i tick = if heldS s tab i tick = true then i else bestS s tab tab.length from rfl)
  clear hH hv hl hA hv2 hl2 hn ha hq
  generalize heldS s tab i tick = hd at HHH HCH
  go_enter Try.func39, Try.ntmps39
  unfold setV
  go_upto_region 1 with (fail)
  generalize w.alloc _ = W at HI HR HHH hB hab hsz hcx ⊢
  have hcW := hcx W (Ext.refl W)
  go_wp2_with (fail)
  refine HHH.out.mono ?_
  rintro e w1 ⟨rfl, hb1⟩
  have hX1 : Ext W w1 := ⟨hb1⟩
  have hc1 := hcx w1 hX1
  clear hcW
  cases hd with
  | true =>
    have HE := Lib.hid (show chooseS s tab i tick = i by rw [HCH.out]; simp)
    go_wp2_with (fail)
    go_ret
    exact ⟨by rw [HE.out]; rfl, hab.trans (hX1.below.mono hsz)⟩
  | false =>
    have HE := Lib.hid (show chooseS s tab i tick = bestS s tab s.tasks.length by rw [HCH.out, ← HN.out]; simp)
    clear HCH HHH
    go_wp2_with (fail)
    go_loopw [9, 10] (fun b j wr => ∃ k : Nat, k ≤ s.tasks.length ∧ b = .int .i64 (bestS s tab k) ∧ j = .int .i64 k ∧ Ext W wr) (fun _ j _ => s.tasks.length - (intOf j).toNat)
    case atStart => exact ⟨0, Nat.zero_le _, rfl, rfl, hX1⟩
    case round =>
      obtain ⟨k, hk, rfl, rfl, hX⟩ := hrel
      have hcr := hcx wr hX
      clear hc1
      by_cases hlt : k < s.tasks.length
      · have hkt : k < tab.length := by rw [HN.out]; exact hlt
        have HI2 := Lib.hid fun W' (h : Ext W W') => HI.out (k : Int) W' h
        rw [hasB_nat] at HI2
        have HR1 := Lib.hid fun W' (h : Ext W W') => HR.out k hkt W' h
        have HS := Lib.hid (best_step s tab k)
        have hwr : IntKind.i64.wrap ((k : Int) + 1) = (k : Int) + 1 := by rw [IntKind.wrap_i64]; omega
        have hbs := best_spec s tab k
        rcases hbs with ⟨hb1, _⟩ | ⟨m, hb1, hb2, _, _⟩
        · rw [hb1] at HS ⊢
          have hu : ∀ p : Bool, (if p = true ∧ ((-1 : Int) = -1 ∨ rankS s tab k ≤ rankS s tab (-1 : Int).toNat) then (k : Int) else -1) = if p = true then (k : Int) else -1 := fun p => by cases p <;> simp
          rw [hu] at HS
          clear hu hb1
          generalize (stAt tab k).pend = p at HI2 HS
          cases p with
          | true =>
            have HS2 := Lib.hid (show bestS s tab (k + 1) = k by rw [HS.out]; simp)
            go_upto_region 7 with (fail)
            clear hcr
            refine wp_region_all (S := Ext W) (by kernel_rfl) (by kernel_rfl) hX.drew (fun K hK => ?_); (repeat (first | (apply hO_and (p := false) (q := true); (· rfl); (· rfl); (· rfl); (· rfl); simp only [Act.put, List.setIfInBounds_toArray, List.set_cons_zero, List.set_cons_succ]) | (apply hO_or (p := true) (q := true); (· rfl); (· rfl); (· rfl); (· rfl); simp only [Act.put, List.setIfInBounds_toArray, List.set_cons_zero, List.set_cons_succ]) | (apply hO_and; (· rfl); (· rfl); (· rfl); (· rfl); simp only [Act.put, List.setIfInBounds_toArray, List.set_cons_zero, List.set_cons_succ]) | (apply hO_or; (· rfl); (· rfl); (· rfl); (· rfl); simp only [Act.put, List.setIfInBounds_toArray, List.set_cons_zero, List.set_cons_succ]) | (apply hO_off; (· rfl); (· rfl); simp only [Act.put, List.setIfInBounds_toArray, List.set_cons_zero, List.set_cons_succ]) | (apply hO_un; (· rfl); (· rfl); simp only [Act.put, List.setIfInBounds_toArray, List.set_cons_zero, List.set_cons_succ]) | (apply hO_val; (· intro w hS; go_simp; with_reducible rfl); (· rfl); simp only [Act.put, List.setIfInBounds_toArray, List.set_cons_zero, List.set_cons_succ]) | (apply hO_call; (· rfl); (· intro w hS; go_simp; exact ⟨rfl, rfl⟩); (· intro w hS; first | exact callX hS (HI2.out _ hS) | exact callX hS (HR1.out _ hS)); simp only [Act.put, List.setIfInBounds_toArray, List.set_cons_zero, List.set_cons_succ]) | (apply hO_if; (· rfl); (· rfl); (· intro hif w hS; go_simp; with_reducible rfl); simp only [Act.put, List.setIfInBounds_toArray, List.set_cons_zero, List.set_cons_succ]) | (apply hO_ifcall; (· rfl); (· rfl); (· intro hif w hS; go_simp; exact ⟨rfl, rfl⟩); (· intro hif w hS; first | exact callX hS (HI2.out _ hS) | exact callX hS (HR1.out _ hS)); simp only [Act.put, List.setIfInBounds_toArray, List.set_cons_zero, List.set_cons_succ]))); refine hO_nil ?_; refine hK _ ?_; clear hK K
            intro w2 hX2
            have hc2 := hcx w2 hX2
            go_wp2_with (fail)
            exact ⟨⟨k + 1, hlt, by rw [HS2.out], rfl, hX2⟩, by simp [intOf]; omega⟩
          | false =>
            have HS2 := Lib.hid (show bestS s tab (k + 1) = -1 by rw [HS.out]; simp)
            go_upto_region 7 with (fail)
            clear hcr
            refine wp_region_all (S := Ext W) (by kernel_rfl) (by kernel_rfl) hX.drew (fun K hK => ?_); (repeat (first | (apply hO_and (p := false) (q := true); (· rfl); (· rfl); (· rfl); (· rfl); simp only [Act.put, List.setIfInBounds_toArray, List.set_cons_zero, List.set_cons_succ]) | (apply hO_or (p := true) (q := true); (· rfl); (· rfl); (· rfl); (· rfl); simp only [Act.put, List.setIfInBounds_toArray, List.set_cons_zero, List.set_cons_succ]) | (apply hO_and; (· rfl); (· rfl); (· rfl); (· rfl); simp only [Act.put, List.setIfInBounds_toArray, List.set_cons_zero, List.set_cons_succ]) | (apply hO_or; (· rfl); (· rfl); (· rfl); (· rfl); simp only [Act.put, List.setIfInBounds_toArray, List.set_cons_zero, List.set_cons_succ]) | (apply hO_off; (· rfl); (· rfl); simp only [Act.put, List.setIfInBounds_toArray, List.set_cons_zero, List.set_cons_succ]) | (apply hO_un; (· rfl); (· rfl); simp only [Act.put, List.setIfInBounds_toArray, List.set_cons_zero, List.set_cons_succ]) | (apply hO_val; (· intro w hS; go_simp; with_reducible rfl); (· rfl); simp only [Act.put, List.setIfInBounds_toArray, List.set_cons_zero, List.set_cons_succ]) | (apply hO_call; (· rfl); (· intro w hS; go_simp; exact ⟨rfl, rfl⟩); (· intro w hS; first | exact callX hS (HI2.out _ hS) | exact callX hS (HR1.out _ hS)); simp only [Act.put, List.setIfInBounds_toArray, List.set_cons_zero, List.set_cons_succ]) | (apply hO_if; (· rfl); (· rfl); (· intro hif w hS; go_simp; with_reducible rfl); simp only [Act.put, List.setIfInBounds_toArray, List.set_cons_zero, List.set_cons_succ]) | (apply hO_ifcall; (· rfl); (· rfl); (· intro hif w hS; go_simp; exact ⟨rfl, rfl⟩); (· intro hif w hS; first | exact callX hS (HI2.out _ hS) | exact callX hS (HR1.out _ hS)); simp only [Act.put, List.setIfInBounds_toArray, List.set_cons_zero, List.set_cons_succ]))); refine hO_nil ?_; refine hK _ ?_; clear hK K
            intro w2 hX2
            have hc2 := hcx w2 hX2
            go_wp2_with (fail)
            exact ⟨⟨k + 1, hlt, by rw [HS2.out], rfl, hX2⟩, by simp [intOf]; omega⟩
        · rw [hb1] at HS ⊢
          rw [Int.toNat_natCast] at HS
          have HR2 := Lib.hid fun W' (h : Ext W W') => HR.out m (by omega) W' h
          generalize (stAt tab k).pend = p at HI2 HS
          generalize rankS s tab k = rk at HR1 HS
          generalize rankS s tab m = rm at HR2 HS
          have hm1 : ((m : Int) == -1) = false := by simp
          cases p with
          | true =>
            go_upto_region 7 with (fail)
            clear hcr
            refine wp_region_all (S := Ext W) (by kernel_rfl) (by kernel_rfl) hX.drew (fun K hK => ?_); (repeat (first | (apply hO_and (p := false) (q := true); (· rfl); (· rfl); (· rfl); (· rfl); simp only [Act.put, List.setIfInBounds_toArray, List.set_cons_zero, List.set_cons_succ]) | (apply hO_or (p := true) (q := true); (· rfl); (· rfl); (· rfl); (· rfl); simp only [Act.put, List.setIfInBounds_toArray, List.set_cons_zero, List.set_cons_succ]) | (apply hO_and; (· rfl); (· rfl); (· rfl); (· rfl); simp only [Act.put, List.setIfInBounds_toArray, List.set_cons_zero, List.set_cons_succ]) | (apply hO_or; (· rfl); (· rfl); (· rfl); (· rfl); simp only [Act.put, List.setIfInBounds_toArray, List.set_cons_zero, List.set_cons_succ]) | (apply hO_off; (· rfl); (· rfl); simp only [Act.put, List.setIfInBounds_toArray, List.set_cons_zero, List.set_cons_succ]) | (apply hO_un; (· rfl); (· rfl); simp only [Act.put, List.setIfInBounds_toArray, List.set_cons_zero, List.set_cons_succ]) | (apply hO_val; (· intro w hS; go_simp; with_reducible rfl); (· rfl); simp only [Act.put, List.setIfInBounds_toArray, List.set_cons_zero, List.set_cons_succ]) | (apply hO_call; (· rfl); (· intro w hS; go_simp; exact ⟨rfl, rfl⟩); (· intro w hS; first | exact callX hS (HI2.out _ hS) | exact callX hS (HR1.out _ hS) | exact callX hS (HR2.out _ hS)); simp only [Act.put, List.setIfInBounds_toArray, List.set_cons_zero, List.set_cons_succ]) | (apply hO_if; (· rfl); (· rfl); (· intro hif w hS; go_simp; with_reducible rfl); simp only [Act.put, List.setIfInBounds_toArray, List.set_cons_zero, List.set_cons_succ]) | (apply hO_ifcall; (· rfl); (· rfl); (· intro hif w hS; go_simp; exact ⟨rfl, rfl⟩); (· intro hif w hS; first | exact callX hS (HI2.out _ hS) | exact callX hS (HR1.out _ hS) | exact callX hS (HR2.out _ hS)); simp only [Act.put, List.setIfInBounds_toArray, List.set_cons_zero, List.set_cons_succ]))); refine hO_nil ?_; refine hK _ ?_; clear hK K
            intro w2 hX2
            have hc2 := hcx w2 hX2
            by_cases hrr : rk ≤ rm
            · have hd : decide (rk ≤ rm) = true := decide_eq_true hrr
              have hd2 : (true && (false || decide (rk ≤ rm))) = true := by rw [hd]; rfl
              have HS2 := Lib.hid (show bestS s tab (k + 1) = k by rw [HS.out, if_pos ⟨rfl, .inr hrr⟩])
              go_wp2_with (fail)
              · exact ⟨⟨k + 1, hlt, by rw [HS2.out], rfl, hX2⟩, by simp [intOf]; omega⟩
              · rename_i h9
                rcases h9 with h9 | h9
                · cases h9
                · omega
            · have hd : decide (rk ≤ rm) = false := decide_eq_false hrr
              have HS2 := Lib.hid (show bestS s tab (k + 1) = m by rw [HS.out, if_neg (by omega)])
              go_wp2_with (fail)
              exact ⟨⟨k + 1, hlt, by rw [HS2.out], rfl, hX2⟩, by simp [intOf]; omega⟩
          | false =>
            have HS2 := Lib.hid (show bestS s tab (k + 1) = m by rw [HS.out]; simp)
            go_upto_region 7 with (fail)
            clear hcr
            refine wp_region_all (S := Ext W) (by kernel_rfl) (by kernel_rfl) hX.drew (fun K hK => ?_); (repeat (first | (apply hO_and (p := false) (q := true); (· rfl); (· rfl); (· rfl); (· rfl); simp only [Act.put, List.setIfInBounds_toArray, List.set_cons_zero, List.set_cons_succ]) | (apply hO_or (p := true) (q := true); (· rfl); (· rfl); (· rfl); (· rfl); simp only [Act.put, List.setIfInBounds_toArray, List.set_cons_zero, List.set_cons_succ]) | (apply hO_and; (· rfl); (· rfl); (· rfl); (· rfl); simp only [Act.put, List.setIfInBounds_toArray, List.set_cons_zero, List.set_cons_succ]) | (apply hO_or; (· rfl); (· rfl); (· rfl); (· rfl); simp only [Act.put, List.setIfInBounds_toArray, List.set_cons_zero, List.set_cons_succ]) | (apply hO_off; (· rfl); (· rfl); simp only [Act.put, List.setIfInBounds_toArray, List.set_cons_zero, List.set_cons_succ]) | (apply hO_un; (· rfl); (· rfl); simp only [Act.put, List.setIfInBounds_toArray, List.set_cons_zero, List.set_cons_succ]) | (apply hO_val; (· intro w hS; go_simp; with_reducible rfl); (· rfl); simp only [Act.put, List.setIfInBounds_toArray, List.set_cons_zero, List.set_cons_succ]) | (apply hO_call; (· rfl); (· intro w hS; go_simp; exact ⟨rfl, rfl⟩); (· intro w hS; first | exact callX hS (HI2.out _ hS) | exact callX hS (HR1.out _ hS) | exact callX hS (HR2.out _ hS)); simp only [Act.put, List.setIfInBounds_toArray, List.set_cons_zero, List.set_cons_succ]) | (apply hO_if; (· rfl); (· rfl); (· intro hif w hS; go_simp; with_reducible rfl); simp only [Act.put, List.setIfInBounds_toArray, List.set_cons_zero, List.set_cons_succ]) | (apply hO_ifcall; (· rfl); (· rfl); (· intro hif w hS; go_simp; exact ⟨rfl, rfl⟩); (· intro hif w hS; first | exact callX hS (HI2.out _ hS) | exact callX hS (HR1.out _ hS) | exact callX hS (HR2.out _ hS)); simp only [Act.put, List.setIfInBounds_toArray, List.set_cons_zero, List.set_cons_succ]))); refine hO_nil ?_; refine hK _ ?_; clear hK K
            intro w2 hX2
            have hc2 := hcx w2 hX2
            go_wp2_with (fail)
            exact ⟨⟨k + 1, hlt, by rw [HS2.out], rfl, hX2⟩, by simp [intOf]; omega⟩
      · obtain rfl : k = s.tasks.length := by omega
        go_wp2_with (fail)
        go_ret
        exact ⟨by rw [HE.out]; rfl, hab.trans (hX.below.mono hsz)⟩
end Go.Proofs.Ytlaflbepidkmnaa
