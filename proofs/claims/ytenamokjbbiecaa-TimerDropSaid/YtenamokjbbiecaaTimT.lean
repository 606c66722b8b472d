/- timer.Tick. -/
import Derived.Test.YtenamokjbbiecaaProg
import Derived.Test.YtenamokjbbiecaaBase
import Derived.Test.YtenamokjbbiecaaHeldX
import Derived.Test.YtenamokjbbiecaaApp
import Derived.Test.YtenamokjbbiecaaExt0
import Derived.Test.YtenamokjbbiecaaChg
import Derived.Test.YtenamokjbbiecaaMapR
import Derived.Test.YtenamokjbbiecaaMapF
import Derived.Test.YtenamokjbbiecaaTim
import Derived.Deep.Cut
import Derived.Lib.Hide
import Derived.OwnWalk
import Derived.Sort.OwnSortedInts
import Derived.Test.YtenamokjbbiecaaShelf
namespace Go.Proofs.Ytenamokjbbiecaa
open Go.RowKit Go.Sort
attribute [local go_sem] setCell_twice ByteArray.toList_eq str_list Ext.alloc Ext.drew
set_option linter.unusedSimpArgs false
set_option maxRecDepth 100000
set_option maxHeartbeats 6400000
attribute [local irreducible] Calls

def tickF (f : Int → Option Int) : Int → Option Int := fun x => match f x with
  | none => none
  | some m => if m = 0 then none else some (m - 1)
/-- while it is gone through -/
def curF (f : Int → Option Int) (left : Int → Bool) : Int → Option Int := fun x => if left x = true then f x else tickF f x
/-- those that are due and gone by -/
def Gone (f : Int → Option Int) (left : Int → Bool) (ids : List Int) : Prop := ids.Nodup ∧ ∀ x, x ∈ ids ↔ (f x = some 0 ∧ left x = false)
/-- rising, all that are due -/
def Due (f : Int → Option Int) (ids : List Int) : Prop := ids.Pairwise (· < ·) ∧ ∀ x, x ∈ ids ↔ f x = some 0
theorem curF_start (f : Int → Option Int) : curF f (fun x => (f x).isSome) = f := by
  funext x
  unfold curF tickF
  cases h : f x <;> simp [h]
theorem curF_end {f : Int → Option Int} {left : Int → Bool} (h : ∀ x, left x = false) : curF f left = tickF f := by
  funext x
  unfold curF
  rw [h]
  rfl
theorem curF_drop {f : Int → Option Int} {left : Int → Bool} {x : Int} (hf : f x = some 0) : upd (curF f left) x none = curF f (fun y => left y && !decide (y = x)) := by
  funext y
  unfold upd curF
  by_cases h : y = x
  · subst h
    simp [tickF, hf]
  · simp [h]
theorem curF_store {f : Int → Option Int} {left : Int → Bool} {x m : Int} (hf : f x = some m) (hm : m ≠ 0) : upd (curF f left) x (some (m - 1)) = curF f (fun y => left y && !decide (y = x)) := by
  funext y
  unfold upd curF
  by_cases h : y = x
  · subst h
    simp [tickF, hf, hm]
  · simp [h]
theorem Gone.start (f : Int → Option Int) : Gone f (fun x => (f x).isSome) [] := by
  refine ⟨List.nodup_nil, fun x => ⟨fun h => (by cases h), fun h => ?_⟩⟩
  have h2 : (f x).isSome = false := h.2
  rw [h.1] at h2
  cases h2
theorem Gone.due {f : Int → Option Int} {left : Int → Bool} {ids : List Int} (h : Gone f left ids) {x : Int} (hf : f x = some 0) (hl : left x = true) : Gone f (fun y => left y && !decide (y = x)) (ids ++ [x]) := by
  refine ⟨?_, fun y => ?_⟩
  · rw [List.nodup_append]
    refine ⟨h.1, by simp, fun a ha b hb e => ?_⟩
    obtain rfl : b = x := by simpa using hb
    subst e
    rw [((h.2 a).1 ha).2] at hl
    cases hl
  · rw [List.mem_append, h.2 y, List.mem_singleton]
    by_cases e : y = x
    · subst e; simp [hf]
    · simp [e]
theorem Gone.not {f : Int → Option Int} {left : Int → Bool} {ids : List Int} (h : Gone f left ids) {x m : Int} (hf : f x = some m) (hm : m ≠ 0) : Gone f (fun y => left y && !decide (y = x)) ids := by
  refine ⟨h.1, fun y => ?_⟩
  rw [h.2 y]
  by_cases e : y = x
  · subst e; simp [hf, hm]
  · simp [e]
theorem Gone.end {f : Int → Option Int} {left : Int → Bool} {ids : List Int} (h : Gone f left ids) (hl : ∀ x, left x = false) : Due f (ids.mergeSort fun x y => decide (x ≤ y)) := by
  have hp := List.mergeSort_perm ids (fun x y => decide (x ≤ y))
  have hs := List.pairwise_mergeSort (le := fun x y : Int => decide (x ≤ y)) (fun a b c h1 h2 => by simp at *; omega) (fun a b => by simp; omega) ids
  refine ⟨?_, fun x => ?_⟩
  · have hn : (ids.mergeSort fun x y => decide (x ≤ y)).Pairwise (· ≠ ·) := hp.symm.nodup h.1
    refine List.Pairwise.imp₂ (fun {a b} h1 h2 => ?_) hs hn
    have : a ≤ b := by simpa using h1
    omega
  · rw [hp.mem_iff, h.2 x]
    simp [hl]
theorem of_wf {x : Int} (h : (Lit.int .i64 x).wf = true) : -9223372036854775808 ≤ x ∧ x ≤ 9223372036854775807 := by
  have h' : (decide ((-9223372036854775808 : Int) ≤ x) && decide (x ≤ 9223372036854775807)) = true := h
  simpa using h'
theorem wf_of {x : Int} (h : -9223372036854775808 ≤ x ∧ x ≤ 9223372036854775807) : (Lit.int .i64 x).wf = true := by
  show (decide (_ ≤ _) && decide (_ ≤ _)) = true
  rw [Bool.and_eq_true, decide_eq_true_eq, decide_eq_true_eq]
  exact h
theorem sort_any (v : Value) (ids : List Int) (base : Nat) (w : World) (h : RowP w base v ids) (hl : ids.length < 100000) :
    Calls Try.prog 42 #[v] w fun e w' => e = .returned (.tuple #[]) ∧ RowP w' base v (ids.mergeSort fun x y => decide (x ≤ y)) ∧ w.grownBy w' v.ownBlock := by
  have h0 := h
  unfold RowP OwnL at h0
  rw [encI_flat] at h0
  rcases h0.2 with ⟨rfl, hn⟩ | ⟨g, cap, cur, rfl, hg, hh, hnc, hcm, hsz, htk⟩
  · have : ids = [] := List.length_eq_zero_iff.1 hn
    subst this
    refine (Try.slices_Sort_int_none _ _ w).mono ?_
    rintro e w1 ⟨rfl, rfl⟩
    exact ⟨rfl, by simpa using h, World.grownBy.refl _ _⟩
  · rw [Nat.mul_one] at htk
    refine (Try.slices_Sort_int g 0 cap ids w (holds_of_blockI hh htk) (Array.getElem?_eq_some_iff.1 hh).1 (by omega)).mono ?_
    rintro e w1 ⟨rfl, n, os, rfl⟩
    have hlen : (ids.mergeSort fun x y => decide (x ≤ y)).length = ids.length := List.length_mergeSort _
    refine ⟨rfl, ?_, grownBy_sortedI _⟩
    have := ownsRow_sortedI (w := w) (n := n) (os := os) hlen hg hh hnc hcm hsz
    unfold RowP OwnL
    rw [encI_flat, hlen]
    exact this
theorem tick_any (tb bm n : Nat) (f : Int → Option Int) (w : World) (h : TmAt w tb bm n f) (hn : n < 100000) (hp : ∀ x m, f x = some m → 0 ≤ m) :
    Calls Try.prog 24 #[.pointer (some ⟨tb, 0, none⟩)] w fun e w' => ∃ v ids, e = .returned v ∧ Due f ids ∧ RowP w' w.heap.size v ids ∧ TmAt w' tb bm n (tickF f) ∧ w.grownBy w' (some bm) := by
  have hc := h.1.cell
  have hl := h.2
  have hne := h.ne
  have hlt := h.1.lt
  have hwf := h.2.wf mapTy
  go_enter Try.func24, Try.ntmps24
  go_wp2_with (at_range; refine wpF_range mapTy rfl _ rfl rfl hl ?_; intro w0 cnt0 hcn hrg0 hg0 hs0)
  go_frame
  have hrg0 : RngF Try.prog 3 2 w0 bm w.heap.size n (curF f fun x => (f x).isSome) (fun x => (f x).isSome) cnt0 := by rw [curF_start]; exact hrg0
  go_loopw [3] (fun v wr => ∃ left cnt ids, RngF Try.prog 3 2 wr bm w.heap.size n (curF f left) left cnt ∧ RowP wr w.heap.size v ids ∧ Hid (Gone f left ids) ∧ ids.length + cnt ≤ n ∧ w.grownBy wr (some bm) ∧ w.heap.size < wr.heap.size) (fun _ wr => wr.rangeLeft bm w.heap.size)
  case atStart => exact ⟨_, cnt0, [], hrg0, OwnL.nil, Lib.hid (Gone.start f), by simpa using hcn, hg0.but _, by omega⟩
  case round =>
    obtain ⟨left, cnt, ids, hrg, hO, hG, hn2, hgw, hsz⟩ := hrel
    have hBr := h.1.grown hgw (fun e => hne (Option.some.inj e).symm)
    have hcr := hBr.cell
    obtain ⟨Av, cv, rfl, _, _⟩ := OwnL.form hO
    go_wp2_with (at_next; refine wpF_next mapTy rfl _ rfl rfl hrg ?_ ?_)
    · intro hl0
      have hM := hrg.map
      rw [curF_end hl0] at hM
      go_wp2_with (fail)
      refine (sort_any _ ids _ wr hO (by omega)).mono ?_
      rintro e w1 ⟨rfl, hO1, hg1⟩
      go_wp2_with (fail)
      go_ret
      exact ⟨_, _, rfl, Gone.end hG.out hl0, hO1, ⟨hBr.grown hg1 (own_ne_blk hO hBr (by decide)), hM.grown hg1 (fun e => own_ne_map hO hM e.symm)⟩, hgw.andThen hg1 (fun j hj => .inl (OwnL.lt hO j hj).1)⟩
    · intro x c w1 cnt1 hwx hwc hlx hfx hrg1 hlt1 hg1 hs1 hen
      have hf : f x = some c := by
        unfold curF at hfx
        rw [if_pos hlx] at hfx
        exact hfx
      have hc0 := hp x c hf
      have hOr := OwnL.grown hO hg1 (fun k hk e => own_ne_iter hO hrg (by rw [hk, e]))
      have hB1 := hBr.grown hg1 (fun e => by have := Option.some.inj e; omega)
      have hgw1 := hgw.andThen hg1 (fun j hj => by cases hj; exact .inl (Nat.le_refl _))
      have hcr1 := hB1.cell
      have hHF := Lib.hid hf
      have HL := Lib.hid hlx
      have HS1 := Lib.hid hs1
      have hsz1 : w.heap.size < w1.heap.size := by omega
      clear hcr hfx hf hlx hc hs1
      by_cases h0 : c = 0
      · subst h0
        have hgd := Lib.hid (Gone.due hG.out hHF.out HL.out)
        have hcu := Lib.hid (curF_drop (left := left) hHF.out)
        have hcu2 := Lib.hid (curF_drop (left := fun y => left y && !decide (y = x)) hHF.out)
        go_wp2_with (first | (at_builtin; (refine wpList_push rfl _ _ 44 rfl w.heap.size 3 Try.underlying44 infoPI rfl (by decide) (by decide) encI ids _ rfl (OwnL.alloc hOr _) x w1.heap.size #[.int .i64 x] 3 rfl (Blk.new _ _ _) rfl rfl (by simp [encI, Value.oneCell']) ?_ ?_ ?_; (· omega); (· simp; omega); (intro v2 w8 hown hg8 hloc _; obtain ⟨A2, c2, rfl⟩ := OwnL.slice2 hown; have hA8 := (Ext.refl w1).alloc (.cells #[.int .i64 x] 3); have hrg8 := (hrg1.ext hA8).grown hg8 (fun e => own_ne_map (OwnL.alloc hOr _) (hrg1.ext hA8).map e.symm) (fun e => own_ne_iter (OwnL.alloc hOr _) (hrg1.ext hA8) e.symm); have hB8 := (hB1.ext hA8).grown hg8 (own_ne_blk (OwnL.alloc hOr _) (hB1.ext hA8) (by decide)); have hc8 := hB8.cell; clear hcr1))) | (at_delete; refine wpF_rdel mapTy rfl _ _ rfl rfl hrg8 x (by simp) hwx rfl ?_; intro w9 cnt9 hrg9 hle9 hg9; go_frame))
        have hG8 := (hgw1.andThen (World.grownBy_alloc w1 _ none) (by simp)).andThen hg8 (fun j hj => .inl (OwnL.lt hOr j hj).1)
        have hO9 := OwnL.grown hown hg9 (fun k hk e => own_ne_map hown hrg8.map (by rw [hk, e]))
        rw [hcu.out] at hrg9
        rw [List.length_append, List.length_singleton] at hO9
        have hl9 := hrg9.left_eq
        have hl0 := hrg.left_eq
        refine ⟨⟨_, cnt9, ids ++ [x], hrg9, hO9, hgd, by rw [List.length_append, List.length_singleton]; omega, hG8.andThen hg9 (fun j hj => .inr hj), by have := hg9.size; have := hg8.size; rw [size_alloc] at this; omega⟩, by omega⟩
      · have hgd := Lib.hid (Gone.not hG.out hHF.out h0 (left := left))
        have hcu := Lib.hid (curF_store (left := left) hHF.out h0)
        have hw0 := Lib.hid hwc
        have hwc1 : (Lit.int .i64 (c - 1)).wf = true := by
          have := of_wf hw0.out
          exact wf_of (by omega)
        have hb : (c == 0) = false := by simpa using h0
        have hwr : IntKind.i64.wrap (c - 1) = c - 1 := by
          have := of_wf hw0.out
          rw [IntKind.wrap_i64]
          omega
        clear hwc
        go_wp2_with (at_mapUpdate; refine wpF_rstore mapTy rfl _ _ _ rfl rfl hrg1 x (c - 1) (by unfold curF; rw [if_pos HL.out, hHF.out]; rfl) hwx rfl hwc1 rfl ?_; intro w9 hrg9 hg9 hs9; go_frame)
        rw [hcu.out] at hrg9
        have hl9 := hrg9.left_eq
        have hl0 := hrg.left_eq
        refine ⟨⟨_, cnt1, ids, hrg9, OwnL.grown hOr hg9 (fun k hk e => own_ne_map hOr hrg1.map (by rw [hk, e])), hgd, by omega, hgw1.andThen hg9 (fun j hj => .inr hj), by omega⟩, by omega⟩
end Go.Proofs.Ytenamokjbbiecaa
