/- The document's timer: Drop, Add. -/
import Derived.Test.YtenamokjbbiecaaProg
import Derived.Test.YtenamokjbbiecaaBase
import Derived.Test.YtenamokjbbiecaaHeldX
import Derived.Test.YtenamokjbbiecaaHeldZ
import Derived.Test.YtenamokjbbiecaaApp
import Derived.Test.YtenamokjbbiecaaExt0
import Derived.Test.YtenamokjbbiecaaChg
import Derived.Test.YtenamokjbbiecaaMapR
import Derived.Test.YtenamokjbbiecaaMapF
import Derived.Test.YtenamokjbbiecaaTimP
import Derived.Test.YtenamokjbbiecaaTim
import Derived.Test.YtenamokjbbiecaaRt
import Derived.Deep.Cut
import Derived.Lib.Hide
import Derived.OwnWalk
import Derived.Maps.AppendAt
import Derived.Deep.DeepMust
namespace Go.Proofs.Ytenamokjbbiecaa
open Go.RowKit
attribute [local go_sem] setCell_twice ByteArray.toList_eq str_list Ext.alloc Ext.drew
set_option linter.unusedSimpArgs false
set_option maxRecDepth 100000
set_option maxHeartbeats 6400000
attribute [local irreducible] Calls

theorem Ints.cells {w : World} {A : Option Addr} {n c : Nat} {xs : List Int} (h : Ints w (.slice A n c) xs) (hne : 0 < xs.length) : ∃ b o, A = some ⟨b, o, none⟩ ∧ ∀ w', Ext w w' → ∀ j (hj : j < xs.length), w'.cell? ⟨b, o + j, none⟩ = some (.int .i64 xs[j]) := by
  obtain ⟨A', c', e1, _, _, h3⟩ := h
  obtain ⟨rfl, _, rfl⟩ := Value.slice.inj e1
  obtain ⟨b, o, e, hx⟩ := h3 (fun e => by rw [e] at hne; simp at hne)
  exact ⟨b, o, e, fun w' h j hj => h.cell (hx j hj)⟩
theorem Ints.newsT {w w' : World} {A : Option Addr} {n c i : Nat} {xs : List Int} (h : Ints w (.slice A n c) xs) (hx : Ext w w') (hi : i ≤ xs.length) : 0 < i → ∃ b o, A = some ⟨b, o, none⟩ ∧ ∀ j u, ((xs.take i).map (Value.int .i64))[j]? = some u → w'.cell? ⟨b, o + j, none⟩ = some u := by
  intro h0
  obtain ⟨b, o, e, hc⟩ := h.cells (by omega)
  refine ⟨b, o, e, fun j u hu => ?_⟩
  rw [List.getElem?_map] at hu
  obtain ⟨y, hy, rfl⟩ := Option.map_eq_some_iff.1 hu
  obtain ⟨hj, rfl⟩ := List.getElem?_eq_some_iff.1 hy
  rw [List.length_take] at hj
  rw [List.getElem_take]
  exact hc w' hx j (by omega)
theorem Ints.newsD {w w' : World} {A : Option Addr} {n c k : Nat} {xs : List Int} (h : Ints w (.slice A n c) xs) (hx : Ext w w') (hk : k ≤ xs.length) (hc : xs.length ≤ c) : 0 < xs.length - k → ∃ b o, (if c = k then A else Option.map (fun x : Addr => { block := x.block, off := x.off + k }) A) = some ⟨b, o, none⟩ ∧ ∀ j u, ((xs.drop k).map (Value.int .i64))[j]? = some u → w'.cell? ⟨b, o + j, none⟩ = some u := by
  intro h0
  obtain ⟨b, o, rfl, hcc⟩ := h.cells (by omega)
  rw [if_neg (by omega)]
  refine ⟨b, o + k, rfl, fun j u hu => ?_⟩
  rw [List.getElem?_map] at hu
  obtain ⟨y, hy, rfl⟩ := Option.map_eq_some_iff.1 hu
  obtain ⟨hj, rfl⟩ := List.getElem?_eq_some_iff.1 hy
  rw [List.length_drop] at hj
  rw [List.getElem_drop, Nat.add_assoc]
  exact hcc w' hx (k + j) (by omega)
theorem Ints.newsD2 {w w' : World} {A : Option Addr} {n c k : Nat} {xs : List Int} (h : Ints w (.slice A n c) xs) (hx : Ext w w') (hk : k ≤ xs.length) (hc : xs.length ≤ c) : 0 < xs.length - k → ∃ b o, (if c = k then A else Option.map (fun x : Addr => x.add k) A) = some ⟨b, o, none⟩ ∧ ∀ j u, ((xs.drop k).map (Value.int .i64))[j]? = some u → w'.cell? ⟨b, o + j, none⟩ = some u := by
  intro h0
  obtain ⟨b, o, rfl, hcc⟩ := h.cells (by omega)
  rw [if_neg (by omega)]
  refine ⟨b, o + k, by rw [Option.map_some, add_none], fun j u hu => ?_⟩
  rw [List.getElem?_map] at hu
  obtain ⟨y, hy, rfl⟩ := Option.map_eq_some_iff.1 hu
  obtain ⟨hj, rfl⟩ := List.getElem?_eq_some_iff.1 hy
  rw [List.length_drop] at hj
  rw [List.getElem_drop, Nat.add_assoc]
  exact hcc w' hx (k + j) (by omega)
theorem one_map (xs : List Int) : ∀ u ∈ xs.map (Value.int .i64), u.oneCell' = true := by
  intro u hu
  obtain ⟨x, _, rfl⟩ := List.mem_map.1 hu
  rfl
theorem row_join {w : World} {base n : Nat} {e : TypeId} {v : Value} {xs ys : List Int} (h : w.ownsRow base e 1 v n (xs.map (Value.int .i64) ++ ys.map (Value.int .i64))) (hn : n = (xs ++ ys).length) : OwnL encI w base e 1 v (xs ++ ys) := by
  subst hn
  unfold OwnL
  rw [encI_flat, List.map_append]
  exact h
theorem drop_len {l : List (Int × Int)} {i : Nat} (hi : i < l.length) (g : Int × Int → Int) : i + (l.length - (i + 1)) = ((l.map g).take i ++ (l.map g).drop (i + 1)).length := by
  rw [List.length_append, List.length_take, List.length_drop, List.length_map]
  omega
theorem drop22_any (tb base : Nat) (l : List (Int × Int)) (f : Int → Option Int) (id : Int) (w : World) (h : RtAt w tb base l) (hA : Agr2 f l) (hl : l.length < 100000) :
    Calls Try.prog 22 #[.pointer (some ⟨tb, 0, none⟩), .int .i64 id] w fun e w' => e = .returned (.bool (f id).isSome) ∧ RtAt w' tb base (dropL l id) ∧ Chg (OfT w base [46, 2]) w w' := by
  have hf := find_any tb base l id w h
  have hr := h
  obtain ⟨h0, vi, vn, h1, h2, h3⟩ := h
  obtain ⟨Ai, ci, rfl⟩ := OwnL.slice2 h2
  obtain ⟨An, cn, rfl⟩ := OwnL.slice2 h3
  rw [List.length_map, List.length_map] at h1
  have hI := h2.ints
  rw [List.length_map] at hI
  have hle1 : l.length ≤ ci := by
    obtain ⟨A', c', e1, g1, _, _⟩ := hI
    have := (Value.slice.inj e1).2.2
    rw [List.length_map] at g1
    omega
  have hle2 : l.length ≤ cn := by
    obtain ⟨A', c', e1, g1, _, _⟩ := h3.ints
    have := (Value.slice.inj e1).2.2
    rw [List.length_map] at g1
    omega
  go_enter Try.func22, Try.ntmps22
  go_wp2_with (fail)
  refine hf.mono ?_
  rintro e w1 ⟨z, rfl, rfl, hz⟩
  rcases hz with ⟨rfl, hn⟩ | ⟨i, hi, rfl, hid⟩
  · have e : f id = none := (hA.none_iff id).2 hn
    have HE := Lib.hid e
    have hd := Lib.hid (drop_none hn)
    clear hn hI hf e
    go_wp2_with (fail)
    go_ret
    exact ⟨by rw [HE.out]; rfl, by rw [hd.out]; exact hr, Chg.refl _ _⟩
  · have HD := Lib.hid (drop_at hA.1 hi)
    rw [hid] at HD
    have HF := Lib.hid ((hA.2 id (l[i]).2).2 (by rw [← hid]; exact List.getElem_mem hi))
    have hc : ∀ w', Ext w w' → ∀ j, w'.cell? ⟨tb, j, none⟩ = #[Value.slice Ai l.length ci, Value.slice An l.length cn][j]? := fun w' hx => (h1.ext hx).cell
    clear hf hid
    have hi1 : i ≤ ci := by omega
    have hi1b : i ≤ cn := by omega
    have hi2 : i + 1 ≤ l.length := hi
    have hw : IntKind.i64.wrap ((i : Int) + 1) = ((i + 1 : Nat) : Int) := by rw [IntKind.wrap_i64]; omega
    have hz0 : (0 : Int) ≤ (i : Int) + 1 := by omega
    have hz1 : (i : Int) + 1 ≤ (l.length : Int) := by omega
    have hz2 : ((i : Int) + 1).toNat = i + 1 := by omega
    have hsz0 : base ≤ w.heap.size := by have := h1.lt; omega
    go_upto_region 4 with (fail)
    refine wp_region_mixZ (T := [1, 8, 16, 19]) (z := 19) (S := Ext w) (W := w) (Ext.mono w) (by kernel_rfl) (by kernel_rfl) (by kernel_rfl) (Ext.refl w).drew (Ext.refl w) (fun _ _ h => h) (fun K hK => ?_)
    (repeat (first | (refine hX_skip ?_ ?_; (· rfl)) | (apply hX_and; (· rfl); (· rfl); (· rfl); (· rfl); (· rfl); simp only [Act.put, List.setIfInBounds_toArray, List.set_cons_zero, List.set_cons_succ]) | (apply hX_or; (· rfl); (· rfl); (· rfl); (· rfl); (· rfl); simp only [Act.put, List.setIfInBounds_toArray, List.set_cons_zero, List.set_cons_succ]) | (apply hX_off; (· rfl); (· rfl); (· rfl); simp only [Act.put, List.setIfInBounds_toArray, List.set_cons_zero, List.set_cons_succ]) | (apply hX_val; (· rfl); (· intro w hS; go_simp; with_reducible rfl); (· rfl); simp only [Act.put, List.setIfInBounds_toArray, List.set_cons_zero, List.set_cons_succ]) | (apply hX_call; (· rfl); (· rfl); (· intro w hS; go_simp; exact ⟨rfl, rfl⟩); (· intro w hS; fail); simp only [Act.put, List.setIfInBounds_toArray, List.set_cons_zero, List.set_cons_succ]) | (apply hX_if; (· rfl); (· rfl); (· rfl); (· intro hif w hS; go_simp; with_reducible rfl); simp only [Act.put, List.setIfInBounds_toArray, List.set_cons_zero, List.set_cons_succ]) | (apply hX_ifcall; (· rfl); (· rfl); (· rfl); (· intro hif w hS; go_simp; exact ⟨rfl, rfl⟩); (· intro hif w hS; fail); simp only [Act.put, List.setIfInBounds_toArray, List.set_cons_zero, List.set_cons_succ]))); refine hX_nil ?_
    refine hK _ ?_
    clear hK K
    refine wpZ_want (i := 1) (by kernel_rfl) rfl (by simp [Region.wanted, yielded]) ?_; intro w1 hx1 K hK; go_simp; have hE1 := (Ext.refl w).trans (hx1.alloc (.cells #[] 3)); have hO1 : (w1.alloc (.cells #[] 3)).ownsRow (w).heap.size 3 1 (.slice (some ⟨w1.heap.size, 0, none⟩) 0 0) 0 [] := own_empty_at rfl (Ext.trans (Ext.refl w) hx1).size; refine hK _ _ hE1 ?_; clear hK K hx1; generalize w1.heap.size = g1 at hO1 ⊢; generalize w1.alloc _ = W1 at hO1 hE1 ⊢
    refine wpZ_want (i := 8) (by kernel_rfl) rfl (by simp [Region.wanted, yielded]) ?_; intro w2 hx2 K hK; refine wp_append_row _ _ 44 rfl (w).heap.size 3 Try.underlying44 infoPI rfl (by decide) _ 0 [] rfl (own_below hO1 hx2.below) Ai i ci (((l.map (·.1)).take i).map (Value.int .i64)) rfl (by rw [List.length_map, List.length_take, List.length_map]; omega) (hI.newsT (hE1.trans hx2) (by rw [List.length_map]; omega)) (one_map _) (by omega) (by unfold maxLen; omega) ((hE1.trans hx2).size) ?_; intro v3 w3 hown3 hg3 hloc3 _; have hE3 := (hE1.trans hx2).grown hg3 (fun k e => (own_lt hO1 k e).1); obtain ⟨A3, c3, rfl⟩ := own_slice hown3; rw [List.nil_append] at hown3; refine hK _ _ hE3 ?_; clear hK K hx2 hO1 hg3 hloc3; clear hE1; refine wpZ_want (i := 16) (by kernel_rfl) rfl (by simp [Region.wanted, yielded]) ?_; intro w4 hx4 K hK; refine wp_append_row _ _ 44 rfl (w).heap.size 3 Try.underlying44 infoPI rfl (by decide) _ (0 + i) _ rfl (own_below hown3 hx4.below) _ (l.length - (i + 1)) (ci - (i + 1)) (((l.map (·.1)).drop (i + 1)).map (Value.int .i64)) rfl (by rw [List.length_map, List.length_drop, List.length_map]; omega) (by have := hI.newsD (k := i + 1) (hE3.trans hx4) (by rw [List.length_map]; omega) (by rw [List.length_map]; omega); rw [List.length_map] at this; exact this) (one_map _) (by omega) (by unfold maxLen; omega) ((hE3.trans hx4).size) ?_; intro v5 w5 hown5 hg5 hloc5 _; have hE5 := (hE3.trans hx4).grown hg5 (fun k e => (own_lt hown3 k e).1); obtain ⟨A5, c5, rfl⟩ := own_slice hown5; simp only [Nat.zero_add] at hown5 ⊢; refine hK _ _ hE5 ?_; clear hK K hx4 hE3 hown3 hg5 hloc5; refine wpZ_last (by kernel_rfl) rfl (by simp [Region.wanted, yielded]) ?_; intro w6 hx6 K hK; have hE6 := hE5.trans hx6
    have hf6 := (h1.ext hE6).free
    have hc6 := hc w6 hE6
    go_simp
    have hB6 := (h1.ext hE6).set 0 (.slice A5 (i + (l.length - (i + 1))) c5)
    have hO6 := row_join (own_below hown5 hx6.below) (drop_len hi (·.1))
    have hO7 := OwnL.set hO6 (a := ⟨tb, 0, none⟩) (own_ne_blk hO6 (h1.ext hE6) (by decide)) (.slice A5 (i + (l.length - (i + 1))) c5)
    have hV6 := OwnL.below h3 hE6.below
    have hV7 := OwnL.set hV6 (a := ⟨tb, 0, none⟩) (own_ne_blk hV6 (h1.ext hE6) (by decide)) (.slice A5 (i + (l.length - (i + 1))) c5)
    have hC6 : Chg (OfT w base [46, 2]) w (w6.setCell ⟨tb, 0, none⟩ (.slice A5 (i + (l.length - (i + 1))) c5)) := (Chg.of_ext hE6).set (.inl (h1.ofT h0 (by simp))) _
    refine hK _ _ ?_
    clear hK K hown5 hO6 hV6 hc hc6 hf6 hI hx6 hE6 hE5
    generalize w6.setCell _ _ = W6 at hC6 hB6 hO7 hV7 ⊢
    refine wpZ_done (by kernel_rfl) (fun W hX => ?_) _
    simp only [List.setIfInBounds_toArray, List.set_cons_zero] at hB6
    have hC := hC6.ext hX
    have hB := hB6.ext hX
    have hR := OwnL.below hO7 hX.below
    have hV := OwnL.below hV7 hX.below
    have hN := RowI.ints hV
    rw [List.length_map] at hN
    clear hC6 hB6 hO7 hV7 hX
    generalize Value.slice (if ci = i + 1 then Ai else _) (l.length - (i + 1)) (ci - (i + 1)) = jv
    have hc : ∀ w', Ext W w' → ∀ j, w'.cell? ⟨tb, j, none⟩ = #[Value.slice A5 (i + (l.length - (i + 1))) c5, Value.slice An l.length cn][j]? := fun w' hx => (hB.ext hx).cell
    go_upto_region 5 with (fail)
    refine wp_region_mixZ (T := [1, 8, 16, 19]) (z := 19) (S := Ext W) (W := W) (Ext.mono W) (by kernel_rfl) (by kernel_rfl) (by kernel_rfl) (Ext.refl W).drew (Ext.refl W) (fun _ _ h => h) (fun K hK => ?_)
    (repeat (first | (refine hX_skip ?_ ?_; (· rfl)) | (apply hX_and; (· rfl); (· rfl); (· rfl); (· rfl); (· rfl); simp only [Act.put, List.setIfInBounds_toArray, List.set_cons_zero, List.set_cons_succ]) | (apply hX_or; (· rfl); (· rfl); (· rfl); (· rfl); (· rfl); simp only [Act.put, List.setIfInBounds_toArray, List.set_cons_zero, List.set_cons_succ]) | (apply hX_off; (· rfl); (· rfl); (· rfl); simp only [Act.put, List.setIfInBounds_toArray, List.set_cons_zero, List.set_cons_succ]) | (apply hX_val; (· rfl); (· intro w hS; go_simp; with_reducible rfl); (· rfl); simp only [Act.put, List.setIfInBounds_toArray, List.set_cons_zero, List.set_cons_succ]) | (apply hX_call; (· rfl); (· rfl); (· intro w hS; go_simp; exact ⟨rfl, rfl⟩); (· intro w hS; fail); simp only [Act.put, List.setIfInBounds_toArray, List.set_cons_zero, List.set_cons_succ]) | (apply hX_if; (· rfl); (· rfl); (· rfl); (· intro hif w hS; go_simp; with_reducible rfl); simp only [Act.put, List.setIfInBounds_toArray, List.set_cons_zero, List.set_cons_succ]) | (apply hX_ifcall; (· rfl); (· rfl); (· rfl); (· intro hif w hS; go_simp; exact ⟨rfl, rfl⟩); (· intro hif w hS; fail); simp only [Act.put, List.setIfInBounds_toArray, List.set_cons_zero, List.set_cons_succ]))); refine hX_nil ?_
    refine hK _ ?_
    clear hK K
    refine wpZ_want (i := 1) (by kernel_rfl) rfl (by simp [Region.wanted, yielded]) ?_; intro w1 hx1 K hK; go_simp; have hE1 := (Ext.refl W).trans (hx1.alloc (.cells #[] 2)); have hO1 : (w1.alloc (.cells #[] 2)).ownsRow (W).heap.size 2 1 (.slice (some ⟨w1.heap.size, 0, none⟩) 0 0) 0 [] := own_empty_at rfl (Ext.trans (Ext.refl W) hx1).size; refine hK _ _ hE1 ?_; clear hK K hx1; generalize w1.heap.size = g1 at hO1 ⊢; generalize w1.alloc _ = W1 at hO1 hE1 ⊢
    refine wpZ_want (i := 8) (by kernel_rfl) rfl (by simp [Region.wanted, yielded]) ?_; intro w2 hx2 K hK; refine wp_append_row _ _ 31 rfl (W).heap.size 2 Try.underlying31 infoI64 rfl (by decide) _ 0 [] rfl (own_below hO1 hx2.below) An i cn (((l.map (·.2)).take i).map (Value.int .i64)) rfl (by rw [List.length_map, List.length_take, List.length_map]; omega) (hN.newsT (hE1.trans hx2) (by rw [List.length_map]; omega)) (one_map _) (by omega) (by unfold maxLen; omega) ((hE1.trans hx2).size) ?_; intro v3 w3 hown3 hg3 hloc3 _; have hE3 := (hE1.trans hx2).grown hg3 (fun k e => (own_lt hO1 k e).1); obtain ⟨A3, c3, rfl⟩ := own_slice hown3; rw [List.nil_append] at hown3; refine hK _ _ hE3 ?_; clear hK K hx2 hO1 hg3 hloc3; clear hE1; refine wpZ_want (i := 16) (by kernel_rfl) rfl (by simp [Region.wanted, yielded]) ?_; intro w4 hx4 K hK; refine wp_append_row _ _ 31 rfl (W).heap.size 2 Try.underlying31 infoI64 rfl (by decide) _ (0 + i) _ rfl (own_below hown3 hx4.below) _ (l.length - (i + 1)) (cn - (i + 1)) (((l.map (·.2)).drop (i + 1)).map (Value.int .i64)) rfl (by rw [List.length_map, List.length_drop, List.length_map]; omega) (by have := hN.newsD (k := i + 1) (hE3.trans hx4) (by rw [List.length_map]; omega) (by rw [List.length_map]; omega); rw [List.length_map] at this; exact this) (one_map _) (by omega) (by unfold maxLen; omega) ((hE3.trans hx4).size) ?_; intro v5 w5 hown5 hg5 hloc5 _; have hE5 := (hE3.trans hx4).grown hg5 (fun k e => (own_lt hown3 k e).1); obtain ⟨A5, c5, rfl⟩ := own_slice hown5; simp only [Nat.zero_add] at hown5 ⊢; refine hK _ _ hE5 ?_; clear hK K hx4 hE3 hown3 hg5 hloc5; refine wpZ_last (by kernel_rfl) rfl (by simp [Region.wanted, yielded]) ?_; intro w6 hx6 K hK; have hE6 := hE5.trans hx6
    have hf6 := (hB.ext hE6).free
    have hc6 := hc w6 hE6
    go_simp
    have hB6 := (hB.ext hE6).set 1 (.slice A5 (i + (l.length - (i + 1))) c5)
    have hO6 := row_join (own_below hown5 hx6.below) (drop_len hi (·.2))
    have hO7 := OwnL.set hO6 (a := ⟨tb, 1, none⟩) (own_ne_blk hO6 (hB.ext hE6) (by decide)) (.slice A5 (i + (l.length - (i + 1))) c5)
    have hR6 := OwnL.below hR hE6.below
    have hR7 := OwnL.set hR6 (a := ⟨tb, 1, none⟩) (own_ne_blk hR6 (hB.ext hE6) (by decide)) (.slice A5 (i + (l.length - (i + 1))) c5)
    have hC6 := (hC.ext hE6).set (g := tb) (i := 1) (.inl (h1.ofT h0 (by simp))) (.slice A5 (i + (l.length - (i + 1))) c5)
    refine hK _ _ ?_
    clear hK K hown5 hO6 hR6 hc hc6 hf6 hN hx6 hE6 hE5
    generalize w6.setCell _ _ = W6 at hC6 hB6 hO7 hR7 ⊢
    refine wpZ_done (by kernel_rfl) (fun W2 hX => ?_) _
    simp only [List.setIfInBounds_toArray, List.set_cons_zero, List.set_cons_succ] at hB6
    have hC2 := hC6.ext hX
    have hB2 := hB6.ext hX
    have hO2 := OwnL.below hO7 hX.below
    have hR2 := OwnL.below hR7 hX.below
    clear hC6 hB6 hO7 hR7 hX
    generalize Value.slice (if cn = i + 1 then An else _) (l.length - (i + 1)) (cn - (i + 1)) = jv2
    go_wp2_with (fail)
    go_ret
    refine ⟨by rw [HF.out]; rfl, ⟨h0, _, _, hB2, ?_, ?_⟩, hC2⟩
    · rw [HD.out, List.map_append, List.map_take, List.map_drop]
      exact OwnL.lower hR2 hsz0
    · rw [HD.out, List.map_append, List.map_take, List.map_drop]
      exact OwnL.lower hO2 (Nat.le_trans hsz0 hC.size)
theorem row_join3 {w : World} {base n : Nat} {e : TypeId} {v : Value} {xs ys zs : List Int} (h : w.ownsRow base e 1 v n (xs.map (Value.int .i64) ++ ys.map (Value.int .i64) ++ zs.map (Value.int .i64))) (hn : n = (xs ++ ys ++ zs).length) : OwnL encI w base e 1 v (xs ++ ys ++ zs) := by
  subst hn
  unfold OwnL
  rw [encI_flat, List.map_append, List.map_append]
  exact h
theorem add_len {l : List (Int × Int)} {i : Nat} (hi : i ≤ l.length) (g : Int × Int → Int) (x : Int) : i + 1 + (l.length - i) = ((l.map g).take i ++ [x] ++ (l.map g).drop i).length := by
  rw [List.length_append, List.length_append, List.length_take, List.length_drop, List.length_map, List.length_singleton]
  omega
end Go.Proofs.Ytenamokjbbiecaa
