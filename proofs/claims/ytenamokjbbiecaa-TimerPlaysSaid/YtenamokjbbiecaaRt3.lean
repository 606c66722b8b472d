/- The document's timer: Add. -/
import Derived.Test.YtenamokjbbiecaaProg
import Derived.Test.YtenamokjbbiecaaBase
import Derived.Test.YtenamokjbbiecaaHeldX
import Derived.Test.YtenamokjbbiecaaHeldZ
import Derived.Test.YtenamokjbbiecaaApp
import Derived.Test.YtenamokjbbiecaaExt0
import Derived.Test.YtenamokjbbiecaaChg
import Derived.Test.YtenamokjbbiecaaMapR
import Derived.Test.YtenamokjbbiecaaMapF
import Derived.Test.YtenamokjbbiecaaTimP
import Derived.Test.YtenamokjbbiecaaTim
import Derived.Test.YtenamokjbbiecaaRt
import Derived.Test.YtenamokjbbiecaaRt2
import Derived.Deep.Cut
import Derived.Lib.Hide
import Derived.OwnWalk
import Derived.Maps.AppendAt
import Derived.Deep.DeepMust
namespace Go.Proofs.Ytenamokjbbiecaa
open Go.RowKit
attribute [local go_sem] setCell_twice ByteArray.toList_eq str_list Ext.alloc Ext.drew
set_option linter.unusedSimpArgs false
set_option maxRecDepth 100000
set_option maxHeartbeats 12800000
attribute [local irreducible] Calls

/-- the first of the two rows is written -/
def Mid22 (w W : World) (tb base : Nat) (v vn : Value) (ns ids : List Int) : Prop :=
  Chg (OfT w base [46, 2]) w W ∧ Blk W tb #[v, vn] 46 ∧ RowP W w.heap.size v ids ∧ RowI W base vn ns
theorem mid22 {w w9 W : World} {tb base : Nat} {v0 vn v8 : Value} {ns ns' ids : List Int} (h1 : Blk w tb #[v0, vn] 46) (h3 : RowI w base vn ns) (h0 : base ≤ tb) (hE : Ext w w9) (hR : OwnL encI w9 w.heap.size 3 1 v8 ids) (hX : Ext (w9.setCell ⟨tb, 0, none⟩ v8) W) (e : ns' = ns := by rfl) : Mid22 w W tb base v8 vn ns' ids := by
  subst e
  have hB := (h1.ext hE).set 0 v8
  simp only [List.setIfInBounds_toArray, List.set_cons_zero] at hB
  have hV := OwnL.below h3 hE.below
  exact ⟨((Chg.of_ext hE).set (.inl (h1.ofT h0 (by simp))) v8).ext hX, hB.ext hX, OwnL.below (OwnL.set hR (a := ⟨tb, 0, none⟩) (own_ne_blk hR (h1.ext hE) (by decide)) v8) hX.below, OwnL.below (OwnL.set hV (a := ⟨tb, 0, none⟩) (own_ne_blk hV (h1.ext hE) (by decide)) v8) hX.below⟩
def Fin22 (w W : World) (tb base : Nat) (v vn : Value) (ids ns : List Int) : Prop :=
  Chg (OfT w base [46, 2]) w W ∧ base ≤ tb ∧ Blk W tb #[v, vn] 46 ∧ RowP W base v ids ∧ RowI W base vn ns
theorem fin22 {w W w9 W2 : World} {tb base : Nat} {v0 vn0 v8 vn v9 : Value} {ids ns : List Int} (h1 : Blk w tb #[v0, vn0] 46) (h0 : base ≤ tb) (hs : base ≤ w.heap.size) (hC : Chg (OfT w base [46, 2]) w W) (hB : Blk W tb #[v8, vn] 46) (hR : RowP W w.heap.size v8 ids)
    (hE : Ext W w9) (hO : OwnL encI w9 W.heap.size 2 1 v9 ns) (hX : Ext (w9.setCell ⟨tb, 1, none⟩ v9) W2) : Fin22 w W2 tb base v8 v9 ids ns := by
  have hB2 := (hB.ext hE).set 1 v9
  simp only [List.setIfInBounds_toArray, List.set_cons_zero, List.set_cons_succ] at hB2
  have hR2 := OwnL.below hR hE.below
  exact ⟨((hC.ext hE).set (.inl (h1.ofT h0 (by simp))) v9).ext hX, h0, hB2.ext hX, OwnL.lower (OwnL.below (OwnL.set hR2 (a := ⟨tb, 1, none⟩) (own_ne_blk hR2 (hB.ext hE) (by decide)) v9) hX.below) hs,
    OwnL.lower (OwnL.below (OwnL.set hO (a := ⟨tb, 1, none⟩) (own_ne_blk hO (hB.ext hE) (by decide)) v9) hX.below) (Nat.le_trans hs hC.size)⟩
theorem Fin22.rt {w W : World} {tb base : Nat} {v vn : Value} {l : List (Int × Int)} {id a : Int} (h : Fin22 w W tb base v vn ((l.map (·.1)).take (insI l id) ++ [id] ++ (l.map (·.1)).drop (insI l id)) ((l.map (·.2)).take (insI l id) ++ [a] ++ (l.map (·.2)).drop (insI l id))) : RtAt W tb base (addL l id a) := by
  obtain ⟨_, h0, hB, h1, h2⟩ := h
  refine ⟨h0, v, vn, hB, ?_, ?_⟩
  · unfold addL
    rw [List.map_append, List.map_cons, List.map_take, List.map_drop]
    simpa using h1
  · unfold addL
    rw [List.map_append, List.map_cons, List.map_take, List.map_drop]
    simpa using h2
def addR (f : Int → Option Int) (l : List (Int × Int)) (id a : Int) : List (Int × Int) := if addB f id a = true then addL l id a else l
theorem add22_any (tb base : Nat) (l : List (Int × Int)) (f : Int → Option Int) (id a : Int) (w : World) (h : RtAt w tb base l) (hA : Agr2 f l) (hl : l.length < 100000) :
    Calls Try.prog 20 #[.pointer (some ⟨tb, 0, none⟩), .int .i64 id, .int .i64 a] w fun e w' => e = .returned (.bool (addB f id a)) ∧ RtAt w' tb base (addR f l id a) ∧ Chg (OfT w base [46, 2]) w w' := by
  have hf := find_any tb base l id w h
  have hr := h
  obtain ⟨h0, vi, vn, h1, h2, h3⟩ := h
  obtain ⟨Ai, ci, rfl⟩ := OwnL.slice2 h2
  obtain ⟨An, cn, rfl⟩ := OwnL.slice2 h3
  rw [List.length_map, List.length_map] at h1
  have hI := h2.ints
  rw [List.length_map] at hI
  have hle1 : l.length ≤ ci := by
    obtain ⟨A', c', e1, g1, _, _⟩ := hI
    have := (Value.slice.inj e1).2.2
    rw [List.length_map] at g1
    omega
  have hle2 : l.length ≤ cn := by
    obtain ⟨A', c', e1, g1, _, _⟩ := h3.ints
    have := (Value.slice.inj e1).2.2
    rw [List.length_map] at g1
    omega
  have h3 : RowI w base (Value.slice An l.length cn) (l.map (·.2)) := by have := h3; rw [List.length_map] at this; exact this
  have hb : addB f id a = ((decide (0 ≤ a) && decide (a ≤ 1099511627776)) && !(f id).isSome) := rfl
  have H0 := Lib.hid (fun (e : addB f id a = false) => (show RtAt w tb base (addR f l id a) by unfold addR; rw [if_neg (by rw [e]; simp)]; exact hr))
  go_enter Try.func20, Try.ntmps20
  go_wp2_with (fail)
  refine hf.mono ?_
  rintro e w1 ⟨z, rfl, rfl, hz⟩
  rcases hz with ⟨rfl, hn⟩ | ⟨i, hi, rfl, hid⟩
  · have hfn : f id = none := (hA.none_iff id).2 hn
    have HF := Lib.hid hfn
    by_cases g1 : a < 0
    · have HZ := Lib.hid (show addB f id a = false by rw [hb, decide_eq_false (by omega)]; rfl)
      clear hb hf hn hI hfn
      go_wp2_with (fail)
      go_ret
      exact ⟨by rw [HZ.out]; rfl, H0.out HZ.out, Chg.refl _ _⟩
    · by_cases g2 : 1099511627776 < a
      · have HZ := Lib.hid (show addB f id a = false by rw [hb, decide_eq_false (show ¬ a ≤ 1099511627776 by omega), Bool.and_false]; rfl)
        clear hb hf hn hI hfn
        go_wp2_with (fail)
        go_ret
        exact ⟨by rw [HZ.out]; rfl, H0.out HZ.out, Chg.refl _ _⟩
      · have HZ := Lib.hid (show addB f id a = true by rw [hb, hfn, decide_eq_true (by omega), decide_eq_true (by omega)]; rfl)
        have hc : ∀ w', Ext w w' → ∀ j, w'.cell? ⟨tb, j, none⟩ = #[Value.slice Ai l.length ci, Value.slice An l.length cn][j]? := fun w' hx => (h1.ext hx).cell
        clear hb hf hn hfn H0
        have hcw := hc w (Ext.refl w)
        go_wp2_with (fail)
        go_loopw [7] (fun i wr => ∃ k : Nat, k ≤ insI l id ∧ i = .int .i64 k ∧ w = wr) (fun i _ => l.length - (intOf i).toNat)
        case atStart => exact ⟨0, Nat.zero_le _, rfl, rfl⟩
        case round =>
          obtain ⟨i, hk, rfl, rfl⟩ := hrel
          have hil := ins_le l id
          have hi : i ≤ l.length := by omega
          by_cases hlt : i < l.length
          · obtain ⟨b, o, rfl, hx⟩ := hI.at (k := i) (by rw [List.length_map]; exact hlt)
            rw [List.getElem_map] at hx
            have hxx := hx w (Ext.refl w)
            have hst := Lib.hid (fun (e : (l[i]).1 < id) => (show i + 1 ≤ insI l id by
              rcases Nat.lt_or_ge i (insI l id) with h | h
              · exact h
              · exfalso
                obtain rfl : i = insI l id := by omega
                exact ins_at hlt e))
            have hen := Lib.hid (fun (e : ¬ (l[i]).1 < id) => (show i = insI l id by
              rcases Nat.lt_or_ge i (insI l id) with h | h
              · exact absurd (ins_lt h).2 e
              · omega))
            clear hx
            generalize (l[i]).1 = y at hxx hst hen
            by_cases e : y < id
            · have hst := hst.out e
              go_wp2_with (fail)
              exact ⟨⟨i + 1, hst, rfl, by first | trivial | rfl⟩, by simp [intOf]; omega⟩
            · have hen1 := Lib.hid (hen.out e)
              have hb : decide (y < id) = false := decide_eq_false e
              clear e hst
              go_upto_region 6 with (fail)
              have hi1 : i ≤ ci := by omega
              have hi1b : i ≤ cn := by omega
              have hz1 : (i : Int) ≤ (l.length : Int) := by omega
              have hsz0 : base ≤ w.heap.size := by have := h1.lt; omega
              have hfin : ∀ (v8 : Value) (w9 W : World), Ext w w9 → OwnL encI w9 w.heap.size 3 1 v8 ((l.map (·.1)).take i ++ [id] ++ (l.map (·.1)).drop i) → Ext (w9.setCell ⟨tb, 0, none⟩ v8) W → Mid22 w W tb base v8 (.slice An l.length cn) (l.map (·.2)) ((l.map (·.1)).take i ++ [id] ++ (l.map (·.1)).drop i) := fun v8 w9 W hE hR hX => mid22 h1 h3 h0 hE hR hX
              clear hcw
              refine' wp_region_mixZ5 (T := [1, 8, 10, 11, 18, 21]) (z := 21) (S := Ext w) (W := w) (fun v W => Mid22 w W tb base v (.slice An l.length cn) (l.map (·.2)) ((l.map (·.1)).take i ++ [id] ++ (l.map (·.1)).drop i)) (Ext.mono w) (by kernel_rfl) (by kernel_rfl) (by kernel_rfl) (Ext.refl w).drew (Ext.refl w) (fun K hK => ?_) ?_
              rotate_left 1
              · (repeat (first | (refine hX_skip ?_ ?_; (· rfl)) | (apply hX_and; (· rfl); (· rfl); (· rfl); (· rfl); (· rfl); simp only [Act.put, List.setIfInBounds_toArray, List.set_cons_zero, List.set_cons_succ]) | (apply hX_or; (· rfl); (· rfl); (· rfl); (· rfl); (· rfl); simp only [Act.put, List.setIfInBounds_toArray, List.set_cons_zero, List.set_cons_succ]) | (apply hX_off; (· rfl); (· rfl); (· rfl); simp only [Act.put, List.setIfInBounds_toArray, List.set_cons_zero, List.set_cons_succ]) | (apply hX_val; (· rfl); (· intro w hS; go_simp; with_reducible rfl); (· rfl); simp only [Act.put, List.setIfInBounds_toArray, List.set_cons_zero, List.set_cons_succ]) | (apply hX_call; (· rfl); (· rfl); (· intro w hS; go_simp; exact ⟨rfl, rfl⟩); (· intro w hS; fail); simp only [Act.put, List.setIfInBounds_toArray, List.set_cons_zero, List.set_cons_succ]) | (apply hX_if; (· rfl); (· rfl); (· rfl); (· intro hif w hS; go_simp; with_reducible rfl); simp only [Act.put, List.setIfInBounds_toArray, List.set_cons_zero, List.set_cons_succ]) | (apply hX_ifcall; (· rfl); (· rfl); (· rfl); (· intro hif w hS; go_simp; exact ⟨rfl, rfl⟩); (· intro hif w hS; fail); simp only [Act.put, List.setIfInBounds_toArray, List.set_cons_zero, List.set_cons_succ]))); refine hX_nil ?_
                refine hK _ ?_
                clear hK K
                refine wpZ_two (i := 1) (j := 10) (by kernel_rfl) rfl rfl rfl rfl ?_ ?_
                · intro w1 hx1 K hK
                  go_simp
                  have hE1 := ((Ext.refl w).trans hx1).alloc (.cells #[] 3)
                  have hO1 : (w1.alloc (.cells #[] 3)).ownsRow w.heap.size 3 1 (.slice (some ⟨w1.heap.size, 0, none⟩) 0 0) 0 [] := own_empty_at rfl ((Ext.refl w).trans hx1).size
                  refine hK _ _ hE1 ?_
                  clear hK K hx1
                  generalize w1.heap.size = g1 at hO1  ⊢
                  generalize w1.alloc _ = W1 at hO1 hE1  ⊢
                  refine wpZ_two (i := 8) (j := 10) (by kernel_rfl) rfl rfl rfl rfl ?_ ?_
                  · intro w3 hx3 K hK
                    refine wp_append_row _ _ 44 rfl w.heap.size 3 Try.underlying44 infoPI rfl (by decide) _ 0 [] rfl (own_below hO1 hx3.below) _ i ci (((l.map (·.1)).take i).map (Value.int .i64)) rfl (by rw [List.length_map, List.length_take, List.length_map]; omega) (hI.newsT (hE1.trans hx3) (by rw [List.length_map]; omega)) (one_map _) (by omega) (by unfold maxLen; omega) ((hE1.trans hx3).size) ?_
                    intro v4 w4 hown3 hg4 hloc4 _
                    have hE3 := (hE1.trans hx3).grown hg4 (fun k e => (own_lt hO1 k e).1)
                    obtain ⟨A3, c3, rfl⟩ := own_slice hown3
                    rw [List.nil_append] at hown3
                    simp only [Nat.zero_add] at hown3 ⊢
                    refine hK _ _ hE3 ?_
                    clear hK K hx3 hO1 hg4 hloc4
                    refine wpZ_want (i := 10) (by kernel_rfl) rfl (by simp [Region.wanted, yielded]) ?_
                    intro w2 hx2 K hK
                    go_simp
                    have hEq := (hE3.trans hx2).alloc (.cells #[.int .i64 id] 3)
                    have hBq : Blk (w2.alloc (.cells #[.int .i64 id] 3)) w2.heap.size #[.int .i64 id] 3 := Blk.new _ _ _
                    have hown3 := own_below hown3 (hx2.alloc (.cells #[.int .i64 id] 3)).below
                    refine hK _ _ hEq ?_
                    clear hK K hx2
                    generalize w2.heap.size = gq at hBq  ⊢
                    generalize w2.alloc _ = Wq at hBq hEq hown3 ⊢
                    refine wpZ_want (i := 11) (by kernel_rfl) rfl (by simp [Region.wanted, yielded]) ?_
                    intro w5 hx5 K hK
                    refine wp_append_row _ _ 44 rfl w.heap.size 3 Try.underlying44 infoPI rfl (by decide) _ i _ rfl (own_below hown3 hx5.below) (some ⟨gq, 0, none⟩) 1 1 ([id].map (Value.int .i64)) rfl rfl (fun _ => ⟨gq, 0, rfl, fun j u hu => by rw [Nat.zero_add, (hBq.ext hx5).cell, ← Array.getElem?_toList]; exact hu⟩) (one_map _) (by omega) (by unfold maxLen; omega) ((hEq.trans hx5).size) ?_
                    intro v6 w6 hown6 hg6 hloc6 _
                    have hE6 := (hEq.trans hx5).grown hg6 (fun k e => (own_lt hown3 k e).1)
                    obtain ⟨A6, c6, rfl⟩ := own_slice hown6
                    refine hK _ _ hE6 ?_
                    clear hK K hx5 hown3 hg6 hloc6
                    refine wpZ_want (i := 18) (by kernel_rfl) rfl (by simp [Region.wanted, yielded]) ?_
                    intro w7 hx7 K hK
                    refine wp_append_row _ _ 44 rfl w.heap.size 3 Try.underlying44 infoPI rfl (by decide) _ (i + 1) _ rfl (own_below hown6 hx7.below) _ (l.length - i) (ci - i) (((l.map (·.1)).drop i).map (Value.int .i64)) rfl (by rw [List.length_map, List.length_drop, List.length_map]; omega) (by first | (have := hI.newsD (k := i) (hE6.trans hx7) (by rw [List.length_map]; omega) (by rw [List.length_map]; omega); rw [List.length_map] at this; exact this) | (have := hI.newsD2 (k := i) (hE6.trans hx7) (by rw [List.length_map]; omega) (by rw [List.length_map]; omega); rw [List.length_map] at this; exact this)) (one_map _) (by omega) (by unfold maxLen; omega) ((hE6.trans hx7).size) ?_
                    intro v8 w8 hown8 hg8 hloc8 _
                    have hE8 := (hE6.trans hx7).grown hg8 (fun k e => (own_lt hown6 k e).1)
                    obtain ⟨A8, c8, rfl⟩ := own_slice hown8
                    have hR8 := row_join3 hown8 (add_len hi _ _)
                    refine hK _ _ hE8 ?_
                    clear hK K hx7 hown6 hg8 hloc8 hown8
                    refine wpZ_last (by kernel_rfl) rfl (by simp [Region.wanted, yielded]) ?_
                    intro w9 hx9 K hK
                    have hE9 := hE8.trans hx9
                    have hf9 := (h1.ext hE9).free
                    have hc9 := hc w9 hE9
                    go_simp
                    refine hK _ _ (wpZ_done (by kernel_rfl) (fun W2 hX2 => ?_) _)
                    have hR9 := OwnL.below hR8 hx9.below
                    generalize Value.slice A8 (i + 1 + (l.length - i)) c8 = v8 at hR9 hX2 ⊢
                    generalize Value.slice (some ⟨g1, 0, none⟩) 0 0 = u1
                    generalize Value.slice A3 i c3 = u2
                    generalize Value.slice (some ⟨gq, 0, none⟩) 1 1 = u3
                    generalize Value.slice A6 (i + 1) c6 = u4
                    exact ⟨u1, u2, u3, u4, v8, rfl, hfin v8 w9 W2 hE9 hR9 hX2⟩
                  · intro w2 hx2 K hK
                    go_simp
                    have hEq := (hE1.trans hx2).alloc (.cells #[.int .i64 id] 3)
                    have hBq : Blk (w2.alloc (.cells #[.int .i64 id] 3)) w2.heap.size #[.int .i64 id] 3 := Blk.new _ _ _
                    have hne : w2.heap.size ≠ g1 := by have := (own_lt hO1 g1 rfl).2; have h8 := hx2.size; omega
                    have hO1 := own_below hO1 (hx2.alloc (.cells #[.int .i64 id] 3)).below
                    refine hK _ _ hEq ?_
                    clear hK K hx2
                    generalize w2.heap.size = gq at hBq hne ⊢
                    generalize w2.alloc _ = Wq at hBq hEq hO1 ⊢
                    refine wpZ_want (i := 8) (by kernel_rfl) rfl (by simp [Region.wanted, yielded]) ?_
                    intro w3 hx3 K hK
                    refine wp_append_row _ _ 44 rfl w.heap.size 3 Try.underlying44 infoPI rfl (by decide) _ 0 [] rfl (own_below hO1 hx3.below) _ i ci (((l.map (·.1)).take i).map (Value.int .i64)) rfl (by rw [List.length_map, List.length_take, List.length_map]; omega) (hI.newsT (hEq.trans hx3) (by rw [List.length_map]; omega)) (one_map _) (by omega) (by unfold maxLen; omega) ((hEq.trans hx3).size) ?_
                    intro v4 w4 hown3 hg4 hloc4 _
                    have hE3 := (hEq.trans hx3).grown hg4 (fun k e => (own_lt hO1 k e).1)
                    have hBq := (hBq.ext hx3).grown hg4 (fun e => hne (Option.some.inj e).symm)
                    obtain ⟨A3, c3, rfl⟩ := own_slice hown3
                    rw [List.nil_append] at hown3
                    simp only [Nat.zero_add] at hown3 ⊢
                    refine hK _ _ hE3 ?_
                    clear hK K hx3 hO1 hg4 hloc4
                    refine wpZ_want (i := 11) (by kernel_rfl) rfl (by simp [Region.wanted, yielded]) ?_
                    intro w5 hx5 K hK
                    refine wp_append_row _ _ 44 rfl w.heap.size 3 Try.underlying44 infoPI rfl (by decide) _ i _ rfl (own_below hown3 hx5.below) (some ⟨gq, 0, none⟩) 1 1 ([id].map (Value.int .i64)) rfl rfl (fun _ => ⟨gq, 0, rfl, fun j u hu => by rw [Nat.zero_add, (hBq.ext hx5).cell, ← Array.getElem?_toList]; exact hu⟩) (one_map _) (by omega) (by unfold maxLen; omega) ((hE3.trans hx5).size) ?_
                    intro v6 w6 hown6 hg6 hloc6 _
                    have hE6 := (hE3.trans hx5).grown hg6 (fun k e => (own_lt hown3 k e).1)
                    obtain ⟨A6, c6, rfl⟩ := own_slice hown6
                    refine hK _ _ hE6 ?_
                    clear hK K hx5 hown3 hg6 hloc6
                    refine wpZ_want (i := 18) (by kernel_rfl) rfl (by simp [Region.wanted, yielded]) ?_
                    intro w7 hx7 K hK
                    refine wp_append_row _ _ 44 rfl w.heap.size 3 Try.underlying44 infoPI rfl (by decide) _ (i + 1) _ rfl (own_below hown6 hx7.below) _ (l.length - i) (ci - i) (((l.map (·.1)).drop i).map (Value.int .i64)) rfl (by rw [List.length_map, List.length_drop, List.length_map]; omega) (by first | (have := hI.newsD (k := i) (hE6.trans hx7) (by rw [List.length_map]; omega) (by rw [List.length_map]; omega); rw [List.length_map] at this; exact this) | (have := hI.newsD2 (k := i) (hE6.trans hx7) (by rw [List.length_map]; omega) (by rw [List.length_map]; omega); rw [List.length_map] at this; exact this)) (one_map _) (by omega) (by unfold maxLen; omega) ((hE6.trans hx7).size) ?_
                    intro v8 w8 hown8 hg8 hloc8 _
                    have hE8 := (hE6.trans hx7).grown hg8 (fun k e => (own_lt hown6 k e).1)
                    obtain ⟨A8, c8, rfl⟩ := own_slice hown8
                    have hR8 := row_join3 hown8 (add_len hi _ _)
                    refine hK _ _ hE8 ?_
                    clear hK K hx7 hown6 hg8 hloc8 hown8
                    refine wpZ_last (by kernel_rfl) rfl (by simp [Region.wanted, yielded]) ?_
                    intro w9 hx9 K hK
                    have hE9 := hE8.trans hx9
                    have hf9 := (h1.ext hE9).free
                    have hc9 := hc w9 hE9
                    go_simp
                    refine hK _ _ (wpZ_done (by kernel_rfl) (fun W2 hX2 => ?_) _)
                    have hR9 := OwnL.below hR8 hx9.below
                    generalize Value.slice A8 (i + 1 + (l.length - i)) c8 = v8 at hR9 hX2 ⊢
                    generalize Value.slice (some ⟨g1, 0, none⟩) 0 0 = u1
                    generalize Value.slice A3 i c3 = u2
                    generalize Value.slice (some ⟨gq, 0, none⟩) 1 1 = u3
                    generalize Value.slice A6 (i + 1) c6 = u4
                    exact ⟨u1, u2, u3, u4, v8, rfl, hfin v8 w9 W2 hE9 hR9 hX2⟩
                · intro w2 hx2 K hK
                  go_simp
                  have hEq := ((Ext.refl w).trans hx2).alloc (.cells #[.int .i64 id] 3)
                  have hBq : Blk (w2.alloc (.cells #[.int .i64 id] 3)) w2.heap.size #[.int .i64 id] 3 := Blk.new _ _ _
                  refine hK _ _ hEq ?_
                  clear hK K hx2
                  generalize w2.heap.size = gq at hBq  ⊢
                  generalize w2.alloc _ = Wq at hBq hEq  ⊢
                  refine wpZ_want (i := 1) (by kernel_rfl) rfl (by simp [Region.wanted, yielded]) ?_
                  intro w1 hx1 K hK
                  go_simp
                  have hE1 := (hEq.trans hx1).alloc (.cells #[] 3)
                  have hO1 : (w1.alloc (.cells #[] 3)).ownsRow w.heap.size 3 1 (.slice (some ⟨w1.heap.size, 0, none⟩) 0 0) 0 [] := own_empty_at rfl (hEq.trans hx1).size
                  have hne : gq ≠ w1.heap.size := by have := (hBq.ext hx1).lt; omega
                  have hBq := (hBq.ext hx1).alloc (.cells #[] 3)
                  refine hK _ _ hE1 ?_
                  clear hK K hx1
                  generalize w1.heap.size = g1 at hO1 hne ⊢
                  generalize w1.alloc _ = W1 at hO1 hE1 hBq ⊢
                  refine wpZ_want (i := 8) (by kernel_rfl) rfl (by simp [Region.wanted, yielded]) ?_
                  intro w3 hx3 K hK
                  refine wp_append_row _ _ 44 rfl w.heap.size 3 Try.underlying44 infoPI rfl (by decide) _ 0 [] rfl (own_below hO1 hx3.below) _ i ci (((l.map (·.1)).take i).map (Value.int .i64)) rfl (by rw [List.length_map, List.length_take, List.length_map]; omega) (hI.newsT (hE1.trans hx3) (by rw [List.length_map]; omega)) (one_map _) (by omega) (by unfold maxLen; omega) ((hE1.trans hx3).size) ?_
                  intro v4 w4 hown3 hg4 hloc4 _
                  have hE3 := (hE1.trans hx3).grown hg4 (fun k e => (own_lt hO1 k e).1)
                  have hBq := (hBq.ext hx3).grown hg4 (fun e => hne (Option.some.inj e).symm)
                  obtain ⟨A3, c3, rfl⟩ := own_slice hown3
                  rw [List.nil_append] at hown3
                  simp only [Nat.zero_add] at hown3 ⊢
                  refine hK _ _ hE3 ?_
                  clear hK K hx3 hO1 hg4 hloc4
                  refine wpZ_want (i := 11) (by kernel_rfl) rfl (by simp [Region.wanted, yielded]) ?_
                  intro w5 hx5 K hK
                  refine wp_append_row _ _ 44 rfl w.heap.size 3 Try.underlying44 infoPI rfl (by decide) _ i _ rfl (own_below hown3 hx5.below) (some ⟨gq, 0, none⟩) 1 1 ([id].map (Value.int .i64)) rfl rfl (fun _ => ⟨gq, 0, rfl, fun j u hu => by rw [Nat.zero_add, (hBq.ext hx5).cell, ← Array.getElem?_toList]; exact hu⟩) (one_map _) (by omega) (by unfold maxLen; omega) ((hE3.trans hx5).size) ?_
                  intro v6 w6 hown6 hg6 hloc6 _
                  have hE6 := (hE3.trans hx5).grown hg6 (fun k e => (own_lt hown3 k e).1)
                  obtain ⟨A6, c6, rfl⟩ := own_slice hown6
                  refine hK _ _ hE6 ?_
                  clear hK K hx5 hown3 hg6 hloc6
                  refine wpZ_want (i := 18) (by kernel_rfl) rfl (by simp [Region.wanted, yielded]) ?_
                  intro w7 hx7 K hK
                  refine wp_append_row _ _ 44 rfl w.heap.size 3 Try.underlying44 infoPI rfl (by decide) _ (i + 1) _ rfl (own_below hown6 hx7.below) _ (l.length - i) (ci - i) (((l.map (·.1)).drop i).map (Value.int .i64)) rfl (by rw [List.length_map, List.length_drop, List.length_map]; omega) (by first | (have := hI.newsD (k := i) (hE6.trans hx7) (by rw [List.length_map]; omega) (by rw [List.length_map]; omega); rw [List.length_map] at this; exact this) | (have := hI.newsD2 (k := i) (hE6.trans hx7) (by rw [List.length_map]; omega) (by rw [List.length_map]; omega); rw [List.length_map] at this; exact this)) (one_map _) (by omega) (by unfold maxLen; omega) ((hE6.trans hx7).size) ?_
                  intro v8 w8 hown8 hg8 hloc8 _
                  have hE8 := (hE6.trans hx7).grown hg8 (fun k e => (own_lt hown6 k e).1)
                  obtain ⟨A8, c8, rfl⟩ := own_slice hown8
                  have hR8 := row_join3 hown8 (add_len hi _ _)
                  refine hK _ _ hE8 ?_
                  clear hK K hx7 hown6 hg8 hloc8 hown8
                  refine wpZ_last (by kernel_rfl) rfl (by simp [Region.wanted, yielded]) ?_
                  intro w9 hx9 K hK
                  have hE9 := hE8.trans hx9
                  have hf9 := (h1.ext hE9).free
                  have hc9 := hc w9 hE9
                  go_simp
                  refine hK _ _ (wpZ_done (by kernel_rfl) (fun W2 hX2 => ?_) _)
                  have hR9 := OwnL.below hR8 hx9.below
                  generalize Value.slice A8 (i + 1 + (l.length - i)) c8 = v8 at hR9 hX2 ⊢
                  generalize Value.slice (some ⟨g1, 0, none⟩) 0 0 = u1
                  generalize Value.slice A3 i c3 = u2
                  generalize Value.slice (some ⟨gq, 0, none⟩) 1 1 = u3
                  generalize Value.slice A6 (i + 1) c6 = u4
                  exact ⟨u1, u2, u3, u4, v8, rfl, hfin v8 w9 W2 hE9 hR9 hX2⟩
              intro u1 u2 u3 u4 v8 W hM
              obtain ⟨hC, hB, hR, hV⟩ := hM
              generalize Value.slice (if ci = i then _ else _) (l.length - i) (ci - i) = jv
              have hN := RowI.ints hV
              have hc : ∀ w', Ext W w' → ∀ j, w'.cell? ⟨tb, j, none⟩ = #[v8, Value.slice An l.length cn][j]? := fun w' hx => (hB.ext hx).cell
              go_upto_region 7 with (fail)
              have hfin2 : ∀ (v9 : Value) (w9 W2 : World), Ext W w9 → OwnL encI w9 W.heap.size 2 1 v9 ((l.map (·.2)).take i ++ [a] ++ (l.map (·.2)).drop i) → Ext (w9.setCell ⟨tb, 1, none⟩ v9) W2 → Fin22 w W2 tb base v8 v9 ((l.map (·.1)).take i ++ [id] ++ (l.map (·.1)).drop i) ((l.map (·.2)).take i ++ [a] ++ (l.map (·.2)).drop i) := fun v9 w9 W2 hE hO hX => fin22 h1 h0 hsz0 hC hB hR hE hO hX
              refine' wp_region_mixZ5 (T := [1, 8, 10, 11, 18, 21]) (z := 21) (S := Ext W) (W := W) (fun v W2 => Fin22 w W2 tb base v8 v ((l.map (·.1)).take i ++ [id] ++ (l.map (·.1)).drop i) ((l.map (·.2)).take i ++ [a] ++ (l.map (·.2)).drop i)) (Ext.mono W) (by kernel_rfl) (by kernel_rfl) (by kernel_rfl) (Ext.refl W).drew (Ext.refl W) (fun K hK => ?_) ?_
              rotate_left 1
              · (repeat (first | (refine hX_skip ?_ ?_; (· rfl)) | (apply hX_and; (· rfl); (· rfl); (· rfl); (· rfl); (· rfl); simp only [Act.put, List.setIfInBounds_toArray, List.set_cons_zero, List.set_cons_succ]) | (apply hX_or; (· rfl); (· rfl); (· rfl); (· rfl); (· rfl); simp only [Act.put, List.setIfInBounds_toArray, List.set_cons_zero, List.set_cons_succ]) | (apply hX_off; (· rfl); (· rfl); (· rfl); simp only [Act.put, List.setIfInBounds_toArray, List.set_cons_zero, List.set_cons_succ]) | (apply hX_val; (· rfl); (· intro w hS; go_simp; with_reducible rfl); (· rfl); simp only [Act.put, List.setIfInBounds_toArray, List.set_cons_zero, List.set_cons_succ]) | (apply hX_call; (· rfl); (· rfl); (· intro w hS; go_simp; exact ⟨rfl, rfl⟩); (· intro w hS; fail); simp only [Act.put, List.setIfInBounds_toArray, List.set_cons_zero, List.set_cons_succ]) | (apply hX_if; (· rfl); (· rfl); (· rfl); (· intro hif w hS; go_simp; with_reducible rfl); simp only [Act.put, List.setIfInBounds_toArray, List.set_cons_zero, List.set_cons_succ]) | (apply hX_ifcall; (· rfl); (· rfl); (· rfl); (· intro hif w hS; go_simp; exact ⟨rfl, rfl⟩); (· intro hif w hS; fail); simp only [Act.put, List.setIfInBounds_toArray, List.set_cons_zero, List.set_cons_succ]))); refine hX_nil ?_
                refine hK _ ?_
                clear hK K
                refine wpZ_two (i := 1) (j := 10) (by kernel_rfl) rfl rfl rfl rfl ?_ ?_
                · intro w1 hx1 K hK
                  go_simp
                  have hE1 := ((Ext.refl W).trans hx1).alloc (.cells #[] 2)
                  have hO1 : (w1.alloc (.cells #[] 2)).ownsRow W.heap.size 2 1 (.slice (some ⟨w1.heap.size, 0, none⟩) 0 0) 0 [] := own_empty_at rfl ((Ext.refl W).trans hx1).size
                  refine hK _ _ hE1 ?_
                  clear hK K hx1
                  generalize w1.heap.size = g1 at hO1  ⊢
                  generalize w1.alloc _ = W1 at hO1 hE1  ⊢
                  refine wpZ_two (i := 8) (j := 10) (by kernel_rfl) rfl rfl rfl rfl ?_ ?_
                  · intro w3 hx3 K hK
                    refine wp_append_row _ _ 31 rfl W.heap.size 2 Try.underlying31 infoI64 rfl (by decide) _ 0 [] rfl (own_below hO1 hx3.below) _ i cn (((l.map (·.2)).take i).map (Value.int .i64)) rfl (by rw [List.length_map, List.length_take, List.length_map]; omega) (hN.newsT (hE1.trans hx3) (by rw [List.length_map]; omega)) (one_map _) (by omega) (by unfold maxLen; omega) ((hE1.trans hx3).size) ?_
                    intro v4 w4 hown3 hg4 hloc4 _
                    have hE3 := (hE1.trans hx3).grown hg4 (fun k e => (own_lt hO1 k e).1)
                    obtain ⟨A3, c3, rfl⟩ := own_slice hown3
                    rw [List.nil_append] at hown3
                    simp only [Nat.zero_add] at hown3 ⊢
                    refine hK _ _ hE3 ?_
                    clear hK K hx3 hO1 hg4 hloc4
                    refine wpZ_want (i := 10) (by kernel_rfl) rfl (by simp [Region.wanted, yielded]) ?_
                    intro w2 hx2 K hK
                    go_simp
                    have hEq := (hE3.trans hx2).alloc (.cells #[.int .i64 a] 2)
                    have hBq : Blk (w2.alloc (.cells #[.int .i64 a] 2)) w2.heap.size #[.int .i64 a] 2 := Blk.new _ _ _
                    have hown3 := own_below hown3 (hx2.alloc (.cells #[.int .i64 a] 2)).below
                    refine hK _ _ hEq ?_
                    clear hK K hx2
                    generalize w2.heap.size = gq at hBq  ⊢
                    generalize w2.alloc _ = Wq at hBq hEq hown3 ⊢
                    refine wpZ_want (i := 11) (by kernel_rfl) rfl (by simp [Region.wanted, yielded]) ?_
                    intro w5 hx5 K hK
                    refine wp_append_row _ _ 31 rfl W.heap.size 2 Try.underlying31 infoI64 rfl (by decide) _ i _ rfl (own_below hown3 hx5.below) (some ⟨gq, 0, none⟩) 1 1 ([a].map (Value.int .i64)) rfl rfl (fun _ => ⟨gq, 0, rfl, fun j u hu => by rw [Nat.zero_add, (hBq.ext hx5).cell, ← Array.getElem?_toList]; exact hu⟩) (one_map _) (by omega) (by unfold maxLen; omega) ((hEq.trans hx5).size) ?_
                    intro v6 w6 hown6 hg6 hloc6 _
                    have hE6 := (hEq.trans hx5).grown hg6 (fun k e => (own_lt hown3 k e).1)
                    obtain ⟨A6, c6, rfl⟩ := own_slice hown6
                    refine hK _ _ hE6 ?_
                    clear hK K hx5 hown3 hg6 hloc6
                    refine wpZ_want (i := 18) (by kernel_rfl) rfl (by simp [Region.wanted, yielded]) ?_
                    intro w7 hx7 K hK
                    refine wp_append_row _ _ 31 rfl W.heap.size 2 Try.underlying31 infoI64 rfl (by decide) _ (i + 1) _ rfl (own_below hown6 hx7.below) _ (l.length - i) (cn - i) (((l.map (·.2)).drop i).map (Value.int .i64)) rfl (by rw [List.length_map, List.length_drop, List.length_map]; omega) (by first | (have := hN.newsD (k := i) (hE6.trans hx7) (by rw [List.length_map]; omega) (by rw [List.length_map]; omega); rw [List.length_map] at this; exact this) | (have := hN.newsD2 (k := i) (hE6.trans hx7) (by rw [List.length_map]; omega) (by rw [List.length_map]; omega); rw [List.length_map] at this; exact this)) (one_map _) (by omega) (by unfold maxLen; omega) ((hE6.trans hx7).size) ?_
                    intro v8 w8 hown8 hg8 hloc8 _
                    have hE8 := (hE6.trans hx7).grown hg8 (fun k e => (own_lt hown6 k e).1)
                    obtain ⟨A8, c8, rfl⟩ := own_slice hown8
                    have hR8 := row_join3 hown8 (add_len hi _ _)
                    refine hK _ _ hE8 ?_
                    clear hK K hx7 hown6 hg8 hloc8 hown8
                    refine wpZ_last (by kernel_rfl) rfl (by simp [Region.wanted, yielded]) ?_
                    intro w9 hx9 K hK
                    have hE9 := hE8.trans hx9
                    have hf9 := (hB.ext hE9).free
                    have hc9 := hc w9 hE9
                    go_simp
                    refine hK _ _ (wpZ_done (by kernel_rfl) (fun W2 hX2 => ?_) _)
                    have hR9 := OwnL.below hR8 hx9.below
                    generalize Value.slice A8 (i + 1 + (l.length - i)) c8 = v8 at hR9 hX2 ⊢
                    generalize Value.slice (some ⟨g1, 0, none⟩) 0 0 = u1
                    generalize Value.slice A3 i c3 = u2
                    generalize Value.slice (some ⟨gq, 0, none⟩) 1 1 = u3
                    generalize Value.slice A6 (i + 1) c6 = u4
                    exact ⟨u1, u2, u3, u4, v8, rfl, hfin2 v8 w9 W2 hE9 hR9 hX2⟩
                  · intro w2 hx2 K hK
                    go_simp
                    have hEq := (hE1.trans hx2).alloc (.cells #[.int .i64 a] 2)
                    have hBq : Blk (w2.alloc (.cells #[.int .i64 a] 2)) w2.heap.size #[.int .i64 a] 2 := Blk.new _ _ _
                    have hne : w2.heap.size ≠ g1 := by have := (own_lt hO1 g1 rfl).2; have h8 := hx2.size; omega
                    have hO1 := own_below hO1 (hx2.alloc (.cells #[.int .i64 a] 2)).below
                    refine hK _ _ hEq ?_
                    clear hK K hx2
                    generalize w2.heap.size = gq at hBq hne ⊢
                    generalize w2.alloc _ = Wq at hBq hEq hO1 ⊢
                    refine wpZ_want (i := 8) (by kernel_rfl) rfl (by simp [Region.wanted, yielded]) ?_
                    intro w3 hx3 K hK
                    refine wp_append_row _ _ 31 rfl W.heap.size 2 Try.underlying31 infoI64 rfl (by decide) _ 0 [] rfl (own_below hO1 hx3.below) _ i cn (((l.map (·.2)).take i).map (Value.int .i64)) rfl (by rw [List.length_map, List.length_take, List.length_map]; omega) (hN.newsT (hEq.trans hx3) (by rw [List.length_map]; omega)) (one_map _) (by omega) (by unfold maxLen; omega) ((hEq.trans hx3).size) ?_
                    intro v4 w4 hown3 hg4 hloc4 _
                    have hE3 := (hEq.trans hx3).grown hg4 (fun k e => (own_lt hO1 k e).1)
                    have hBq := (hBq.ext hx3).grown hg4 (fun e => hne (Option.some.inj e).symm)
                    obtain ⟨A3, c3, rfl⟩ := own_slice hown3
                    rw [List.nil_append] at hown3
                    simp only [Nat.zero_add] at hown3 ⊢
                    refine hK _ _ hE3 ?_
                    clear hK K hx3 hO1 hg4 hloc4
                    refine wpZ_want (i := 11) (by kernel_rfl) rfl (by simp [Region.wanted, yielded]) ?_
                    intro w5 hx5 K hK
                    refine wp_append_row _ _ 31 rfl W.heap.size 2 Try.underlying31 infoI64 rfl (by decide) _ i _ rfl (own_below hown3 hx5.below) (some ⟨gq, 0, none⟩) 1 1 ([a].map (Value.int .i64)) rfl rfl (fun _ => ⟨gq, 0, rfl, fun j u hu => by rw [Nat.zero_add, (hBq.ext hx5).cell, ← Array.getElem?_toList]; exact hu⟩) (one_map _) (by omega) (by unfold maxLen; omega) ((hE3.trans hx5).size) ?_
                    intro v6 w6 hown6 hg6 hloc6 _
                    have hE6 := (hE3.trans hx5).grown hg6 (fun k e => (own_lt hown3 k e).1)
                    obtain ⟨A6, c6, rfl⟩ := own_slice hown6
                    refine hK _ _ hE6 ?_
                    clear hK K hx5 hown3 hg6 hloc6
                    refine wpZ_want (i := 18) (by kernel_rfl) rfl (by simp [Region.wanted, yielded]) ?_
                    intro w7 hx7 K hK
                    refine wp_append_row _ _ 31 rfl W.heap.size 2 Try.underlying31 infoI64 rfl (by decide) _ (i + 1) _ rfl (own_below hown6 hx7.below) _ (l.length - i) (cn - i) (((l.map (·.2)).drop i).map (Value.int .i64)) rfl (by rw [List.length_map, List.length_drop, List.length_map]; omega) (by first | (have := hN.newsD (k := i) (hE6.trans hx7) (by rw [List.length_map]; omega) (by rw [List.length_map]; omega); rw [List.length_map] at this; exact this) | (have := hN.newsD2 (k := i) (hE6.trans hx7) (by rw [List.length_map]; omega) (by rw [List.length_map]; omega); rw [List.length_map] at this; exact this)) (one_map _) (by omega) (by unfold maxLen; omega) ((hE6.trans hx7).size) ?_
                    intro v8 w8 hown8 hg8 hloc8 _
                    have hE8 := (hE6.trans hx7).grown hg8 (fun k e => (own_lt hown6 k e).1)
                    obtain ⟨A8, c8, rfl⟩ := own_slice hown8
                    have hR8 := row_join3 hown8 (add_len hi _ _)
                    refine hK _ _ hE8 ?_
                    clear hK K hx7 hown6 hg8 hloc8 hown8
                    refine wpZ_last (by kernel_rfl) rfl (by simp [Region.wanted, yielded]) ?_
                    intro w9 hx9 K hK
                    have hE9 := hE8.trans hx9
                    have hf9 := (hB.ext hE9).free
                    have hc9 := hc w9 hE9
                    go_simp
                    refine hK _ _ (wpZ_done (by kernel_rfl) (fun W2 hX2 => ?_) _)
                    have hR9 := OwnL.below hR8 hx9.below
                    generalize Value.slice A8 (i + 1 + (l.length - i)) c8 = v8 at hR9 hX2 ⊢
                    generalize Value.slice (some ⟨g1, 0, none⟩) 0 0 = u1
                    generalize Value.slice A3 i c3 = u2
                    generalize Value.slice (some ⟨gq, 0, none⟩) 1 1 = u3
                    generalize Value.slice A6 (i + 1) c6 = u4
                    exact ⟨u1, u2, u3, u4, v8, rfl, hfin2 v8 w9 W2 hE9 hR9 hX2⟩
                · intro w2 hx2 K hK
                  go_simp
                  have hEq := ((Ext.refl W).trans hx2).alloc (.cells #[.int .i64 a] 2)
                  have hBq : Blk (w2.alloc (.cells #[.int .i64 a] 2)) w2.heap.size #[.int .i64 a] 2 := Blk.new _ _ _
                  refine hK _ _ hEq ?_
                  clear hK K hx2
                  generalize w2.heap.size = gq at hBq  ⊢
                  generalize w2.alloc _ = Wq at hBq hEq  ⊢
                  refine wpZ_want (i := 1) (by kernel_rfl) rfl (by simp [Region.wanted, yielded]) ?_
                  intro w1 hx1 K hK
                  go_simp
                  have hE1 := (hEq.trans hx1).alloc (.cells #[] 2)
                  have hO1 : (w1.alloc (.cells #[] 2)).ownsRow W.heap.size 2 1 (.slice (some ⟨w1.heap.size, 0, none⟩) 0 0) 0 [] := own_empty_at rfl (hEq.trans hx1).size
                  have hne : gq ≠ w1.heap.size := by have := (hBq.ext hx1).lt; omega
                  have hBq := (hBq.ext hx1).alloc (.cells #[] 2)
                  refine hK _ _ hE1 ?_
                  clear hK K hx1
                  generalize w1.heap.size = g1 at hO1 hne ⊢
                  generalize w1.alloc _ = W1 at hO1 hE1 hBq ⊢
                  refine wpZ_want (i := 8) (by kernel_rfl) rfl (by simp [Region.wanted, yielded]) ?_
                  intro w3 hx3 K hK
                  refine wp_append_row _ _ 31 rfl W.heap.size 2 Try.underlying31 infoI64 rfl (by decide) _ 0 [] rfl (own_below hO1 hx3.below) _ i cn (((l.map (·.2)).take i).map (Value.int .i64)) rfl (by rw [List.length_map, List.length_take, List.length_map]; omega) (hN.newsT (hE1.trans hx3) (by rw [List.length_map]; omega)) (one_map _) (by omega) (by unfold maxLen; omega) ((hE1.trans hx3).size) ?_
                  intro v4 w4 hown3 hg4 hloc4 _
                  have hE3 := (hE1.trans hx3).grown hg4 (fun k e => (own_lt hO1 k e).1)
                  have hBq := (hBq.ext hx3).grown hg4 (fun e => hne (Option.some.inj e).symm)
                  obtain ⟨A3, c3, rfl⟩ := own_slice hown3
                  rw [List.nil_append] at hown3
                  simp only [Nat.zero_add] at hown3 ⊢
                  refine hK _ _ hE3 ?_
                  clear hK K hx3 hO1 hg4 hloc4
                  refine wpZ_want (i := 11) (by kernel_rfl) rfl (by simp [Region.wanted, yielded]) ?_
                  intro w5 hx5 K hK
                  refine wp_append_row _ _ 31 rfl W.heap.size 2 Try.underlying31 infoI64 rfl (by decide) _ i _ rfl (own_below hown3 hx5.below) (some ⟨gq, 0, none⟩) 1 1 ([a].map (Value.int .i64)) rfl rfl (fun _ => ⟨gq, 0, rfl, fun j u hu => by rw [Nat.zero_add, (hBq.ext hx5).cell, ← Array.getElem?_toList]; exact hu⟩) (one_map _) (by omega) (by unfold maxLen; omega) ((hE3.trans hx5).size) ?_
                  intro v6 w6 hown6 hg6 hloc6 _
                  have hE6 := (hE3.trans hx5).grown hg6 (fun k e => (own_lt hown3 k e).1)
                  obtain ⟨A6, c6, rfl⟩ := own_slice hown6
                  refine hK _ _ hE6 ?_
                  clear hK K hx5 hown3 hg6 hloc6
                  refine wpZ_want (i := 18) (by kernel_rfl) rfl (by simp [Region.wanted, yielded]) ?_
                  intro w7 hx7 K hK
                  refine wp_append_row _ _ 31 rfl W.heap.size 2 Try.underlying31 infoI64 rfl (by decide) _ (i + 1) _ rfl (own_below hown6 hx7.below) _ (l.length - i) (cn - i) (((l.map (·.2)).drop i).map (Value.int .i64)) rfl (by rw [List.length_map, List.length_drop, List.length_map]; omega) (by first | (have := hN.newsD (k := i) (hE6.trans hx7) (by rw [List.length_map]; omega) (by rw [List.length_map]; omega); rw [List.length_map] at this; exact this) | (have := hN.newsD2 (k := i) (hE6.trans hx7) (by rw [List.length_map]; omega) (by rw [List.length_map]; omega); rw [List.length_map] at this; exact this)) (one_map _) (by omega) (by unfold maxLen; omega) ((hE6.trans hx7).size) ?_
                  intro v8 w8 hown8 hg8 hloc8 _
                  have hE8 := (hE6.trans hx7).grown hg8 (fun k e => (own_lt hown6 k e).1)
                  obtain ⟨A8, c8, rfl⟩ := own_slice hown8
                  have hR8 := row_join3 hown8 (add_len hi _ _)
                  refine hK _ _ hE8 ?_
                  clear hK K hx7 hown6 hg8 hloc8 hown8
                  refine wpZ_last (by kernel_rfl) rfl (by simp [Region.wanted, yielded]) ?_
                  intro w9 hx9 K hK
                  have hE9 := hE8.trans hx9
                  have hf9 := (hB.ext hE9).free
                  have hc9 := hc w9 hE9
                  go_simp
                  refine hK _ _ (wpZ_done (by kernel_rfl) (fun W2 hX2 => ?_) _)
                  have hR9 := OwnL.below hR8 hx9.below
                  generalize Value.slice A8 (i + 1 + (l.length - i)) c8 = v8 at hR9 hX2 ⊢
                  generalize Value.slice (some ⟨g1, 0, none⟩) 0 0 = u1
                  generalize Value.slice A3 i c3 = u2
                  generalize Value.slice (some ⟨gq, 0, none⟩) 1 1 = u3
                  generalize Value.slice A6 (i + 1) c6 = u4
                  exact ⟨u1, u2, u3, u4, v8, rfl, hfin2 v8 w9 W2 hE9 hR9 hX2⟩
              intro u5 u6 u7 u8 v9 W2 hM
              generalize Value.slice (if cn = i then _ else _) (l.length - i) (cn - i) = jv2
              go_wp2_with (fail)
              go_ret
              refine ⟨by rw [HZ.out]; rfl, ?_, hM.1⟩
              have e : addR f l id a = addL l id a := by unfold addR; rw [if_pos HZ.out]
              rw [e]
              have hen2 : i = insI l id := hen1.out
              rw [hen2] at hM
              exact hM.rt
          · have hen1 := Lib.hid (show i = insI l id by omega)
            go_upto_region 6 with (fail)
            have hi1 : i ≤ ci := by omega
            have hi1b : i ≤ cn := by omega
            have hz1 : (i : Int) ≤ (l.length : Int) := by omega
            have hsz0 : base ≤ w.heap.size := by have := h1.lt; omega
            have hfin : ∀ (v8 : Value) (w9 W : World), Ext w w9 → OwnL encI w9 w.heap.size 3 1 v8 ((l.map (·.1)).take i ++ [id] ++ (l.map (·.1)).drop i) → Ext (w9.setCell ⟨tb, 0, none⟩ v8) W → Mid22 w W tb base v8 (.slice An l.length cn) (l.map (·.2)) ((l.map (·.1)).take i ++ [id] ++ (l.map (·.1)).drop i) := fun v8 w9 W hE hR hX => mid22 h1 h3 h0 hE hR hX
            clear hcw
            refine' wp_region_mixZ5 (T := [1, 8, 10, 11, 18, 21]) (z := 21) (S := Ext w) (W := w) (fun v W => Mid22 w W tb base v (.slice An l.length cn) (l.map (·.2)) ((l.map (·.1)).take i ++ [id] ++ (l.map (·.1)).drop i)) (Ext.mono w) (by kernel_rfl) (by kernel_rfl) (by kernel_rfl) (Ext.refl w).drew (Ext.refl w) (fun K hK => ?_) ?_
            rotate_left 1
            · (repeat (first | (refine hX_skip ?_ ?_; (· rfl)) | (apply hX_and; (· rfl); (· rfl); (· rfl); (· rfl); (· rfl); simp only [Act.put, List.setIfInBounds_toArray, List.set_cons_zero, List.set_cons_succ]) | (apply hX_or; (· rfl); (· rfl); (· rfl); (· rfl); (· rfl); simp only [Act.put, List.setIfInBounds_toArray, List.set_cons_zero, List.set_cons_succ]) | (apply hX_off; (· rfl); (· rfl); (· rfl); simp only [Act.put, List.setIfInBounds_toArray, List.set_cons_zero, List.set_cons_succ]) | (apply hX_val; (· rfl); (· intro w hS; go_simp; with_reducible rfl); (· rfl); simp only [Act.put, List.setIfInBounds_toArray, List.set_cons_zero, List.set_cons_succ]) | (apply hX_call; (· rfl); (· rfl); (· intro w hS; go_simp; exact ⟨rfl, rfl⟩); (· intro w hS; fail); simp only [Act.put, List.setIfInBounds_toArray, List.set_cons_zero, List.set_cons_succ]) | (apply hX_if; (· rfl); (· rfl); (· rfl); (· intro hif w hS; go_simp; with_reducible rfl); simp only [Act.put, List.setIfInBounds_toArray, List.set_cons_zero, List.set_cons_succ]) | (apply hX_ifcall; (· rfl); (· rfl); (· rfl); (· intro hif w hS; go_simp; exact ⟨rfl, rfl⟩); (· intro hif w hS; fail); simp only [Act.put, List.setIfInBounds_toArray, List.set_cons_zero, List.set_cons_succ]))); refine hX_nil ?_
              refine hK _ ?_
              clear hK K
              refine wpZ_two (i := 1) (j := 10) (by kernel_rfl) rfl rfl rfl rfl ?_ ?_
              · intro w1 hx1 K hK
                go_simp
                have hE1 := ((Ext.refl w).trans hx1).alloc (.cells #[] 3)
                have hO1 : (w1.alloc (.cells #[] 3)).ownsRow w.heap.size 3 1 (.slice (some ⟨w1.heap.size, 0, none⟩) 0 0) 0 [] := own_empty_at rfl ((Ext.refl w).trans hx1).size
                refine hK _ _ hE1 ?_
                clear hK K hx1
                generalize w1.heap.size = g1 at hO1  ⊢
                generalize w1.alloc _ = W1 at hO1 hE1  ⊢
                refine wpZ_two (i := 8) (j := 10) (by kernel_rfl) rfl rfl rfl rfl ?_ ?_
                · intro w3 hx3 K hK
                  refine wp_append_row _ _ 44 rfl w.heap.size 3 Try.underlying44 infoPI rfl (by decide) _ 0 [] rfl (own_below hO1 hx3.below) _ i ci (((l.map (·.1)).take i).map (Value.int .i64)) rfl (by rw [List.length_map, List.length_take, List.length_map]; omega) (hI.newsT (hE1.trans hx3) (by rw [List.length_map]; omega)) (one_map _) (by omega) (by unfold maxLen; omega) ((hE1.trans hx3).size) ?_
                  intro v4 w4 hown3 hg4 hloc4 _
                  have hE3 := (hE1.trans hx3).grown hg4 (fun k e => (own_lt hO1 k e).1)
                  obtain ⟨A3, c3, rfl⟩ := own_slice hown3
                  rw [List.nil_append] at hown3
                  simp only [Nat.zero_add] at hown3 ⊢
                  refine hK _ _ hE3 ?_
                  clear hK K hx3 hO1 hg4 hloc4
                  refine wpZ_want (i := 10) (by kernel_rfl) rfl (by simp [Region.wanted, yielded]) ?_
                  intro w2 hx2 K hK
                  go_simp
                  have hEq := (hE3.trans hx2).alloc (.cells #[.int .i64 id] 3)
                  have hBq : Blk (w2.alloc (.cells #[.int .i64 id] 3)) w2.heap.size #[.int .i64 id] 3 := Blk.new _ _ _
                  have hown3 := own_below hown3 (hx2.alloc (.cells #[.int .i64 id] 3)).below
                  refine hK _ _ hEq ?_
                  clear hK K hx2
                  generalize w2.heap.size = gq at hBq  ⊢
                  generalize w2.alloc _ = Wq at hBq hEq hown3 ⊢
                  refine wpZ_want (i := 11) (by kernel_rfl) rfl (by simp [Region.wanted, yielded]) ?_
                  intro w5 hx5 K hK
                  refine wp_append_row _ _ 44 rfl w.heap.size 3 Try.underlying44 infoPI rfl (by decide) _ i _ rfl (own_below hown3 hx5.below) (some ⟨gq, 0, none⟩) 1 1 ([id].map (Value.int .i64)) rfl rfl (fun _ => ⟨gq, 0, rfl, fun j u hu => by rw [Nat.zero_add, (hBq.ext hx5).cell, ← Array.getElem?_toList]; exact hu⟩) (one_map _) (by omega) (by unfold maxLen; omega) ((hEq.trans hx5).size) ?_
                  intro v6 w6 hown6 hg6 hloc6 _
                  have hE6 := (hEq.trans hx5).grown hg6 (fun k e => (own_lt hown3 k e).1)
                  obtain ⟨A6, c6, rfl⟩ := own_slice hown6
                  refine hK _ _ hE6 ?_
                  clear hK K hx5 hown3 hg6 hloc6
                  refine wpZ_want (i := 18) (by kernel_rfl) rfl (by simp [Region.wanted, yielded]) ?_
                  intro w7 hx7 K hK
                  refine wp_append_row _ _ 44 rfl w.heap.size 3 Try.underlying44 infoPI rfl (by decide) _ (i + 1) _ rfl (own_below hown6 hx7.below) _ (l.length - i) (ci - i) (((l.map (·.1)).drop i).map (Value.int .i64)) rfl (by rw [List.length_map, List.length_drop, List.length_map]; omega) (by first | (have := hI.newsD (k := i) (hE6.trans hx7) (by rw [List.length_map]; omega) (by rw [List.length_map]; omega); rw [List.length_map] at this; exact this) | (have := hI.newsD2 (k := i) (hE6.trans hx7) (by rw [List.length_map]; omega) (by rw [List.length_map]; omega); rw [List.length_map] at this; exact this)) (one_map _) (by omega) (by unfold maxLen; omega) ((hE6.trans hx7).size) ?_
                  intro v8 w8 hown8 hg8 hloc8 _
                  have hE8 := (hE6.trans hx7).grown hg8 (fun k e => (own_lt hown6 k e).1)
                  obtain ⟨A8, c8, rfl⟩ := own_slice hown8
                  have hR8 := row_join3 hown8 (add_len hi _ _)
                  refine hK _ _ hE8 ?_
                  clear hK K hx7 hown6 hg8 hloc8 hown8
                  refine wpZ_last (by kernel_rfl) rfl (by simp [Region.wanted, yielded]) ?_
                  intro w9 hx9 K hK
                  have hE9 := hE8.trans hx9
                  have hf9 := (h1.ext hE9).free
                  have hc9 := hc w9 hE9
                  go_simp
                  refine hK _ _ (wpZ_done (by kernel_rfl) (fun W2 hX2 => ?_) _)
                  have hR9 := OwnL.below hR8 hx9.below
                  generalize Value.slice A8 (i + 1 + (l.length - i)) c8 = v8 at hR9 hX2 ⊢
                  generalize Value.slice (some ⟨g1, 0, none⟩) 0 0 = u1
                  generalize Value.slice A3 i c3 = u2
                  generalize Value.slice (some ⟨gq, 0, none⟩) 1 1 = u3
                  generalize Value.slice A6 (i + 1) c6 = u4
                  exact ⟨u1, u2, u3, u4, v8, rfl, hfin v8 w9 W2 hE9 hR9 hX2⟩
                · intro w2 hx2 K hK
                  go_simp
                  have hEq := (hE1.trans hx2).alloc (.cells #[.int .i64 id] 3)
                  have hBq : Blk (w2.alloc (.cells #[.int .i64 id] 3)) w2.heap.size #[.int .i64 id] 3 := Blk.new _ _ _
                  have hne : w2.heap.size ≠ g1 := by have := (own_lt hO1 g1 rfl).2; have h8 := hx2.size; omega
                  have hO1 := own_below hO1 (hx2.alloc (.cells #[.int .i64 id] 3)).below
                  refine hK _ _ hEq ?_
                  clear hK K hx2
                  generalize w2.heap.size = gq at hBq hne ⊢
                  generalize w2.alloc _ = Wq at hBq hEq hO1 ⊢
                  refine wpZ_want (i := 8) (by kernel_rfl) rfl (by simp [Region.wanted, yielded]) ?_
                  intro w3 hx3 K hK
                  refine wp_append_row _ _ 44 rfl w.heap.size 3 Try.underlying44 infoPI rfl (by decide) _ 0 [] rfl (own_below hO1 hx3.below) _ i ci (((l.map (·.1)).take i).map (Value.int .i64)) rfl (by rw [List.length_map, List.length_take, List.length_map]; omega) (hI.newsT (hEq.trans hx3) (by rw [List.length_map]; omega)) (one_map _) (by omega) (by unfold maxLen; omega) ((hEq.trans hx3).size) ?_
                  intro v4 w4 hown3 hg4 hloc4 _
                  have hE3 := (hEq.trans hx3).grown hg4 (fun k e => (own_lt hO1 k e).1)
                  have hBq := (hBq.ext hx3).grown hg4 (fun e => hne (Option.some.inj e).symm)
                  obtain ⟨A3, c3, rfl⟩ := own_slice hown3
                  rw [List.nil_append] at hown3
                  simp only [Nat.zero_add] at hown3 ⊢
                  refine hK _ _ hE3 ?_
                  clear hK K hx3 hO1 hg4 hloc4
                  refine wpZ_want (i := 11) (by kernel_rfl) rfl (by simp [Region.wanted, yielded]) ?_
                  intro w5 hx5 K hK
                  refine wp_append_row _ _ 44 rfl w.heap.size 3 Try.underlying44 infoPI rfl (by decide) _ i _ rfl (own_below hown3 hx5.below) (some ⟨gq, 0, none⟩) 1 1 ([id].map (Value.int .i64)) rfl rfl (fun _ => ⟨gq, 0, rfl, fun j u hu => by rw [Nat.zero_add, (hBq.ext hx5).cell, ← Array.getElem?_toList]; exact hu⟩) (one_map _) (by omega) (by unfold maxLen; omega) ((hE3.trans hx5).size) ?_
                  intro v6 w6 hown6 hg6 hloc6 _
                  have hE6 := (hE3.trans hx5).grown hg6 (fun k e => (own_lt hown3 k e).1)
                  obtain ⟨A6, c6, rfl⟩ := own_slice hown6
                  refine hK _ _ hE6 ?_
                  clear hK K hx5 hown3 hg6 hloc6
                  refine wpZ_want (i := 18) (by kernel_rfl) rfl (by simp [Region.wanted, yielded]) ?_
                  intro w7 hx7 K hK
                  refine wp_append_row _ _ 44 rfl w.heap.size 3 Try.underlying44 infoPI rfl (by decide) _ (i + 1) _ rfl (own_below hown6 hx7.below) _ (l.length - i) (ci - i) (((l.map (·.1)).drop i).map (Value.int .i64)) rfl (by rw [List.length_map, List.length_drop, List.length_map]; omega) (by first | (have := hI.newsD (k := i) (hE6.trans hx7) (by rw [List.length_map]; omega) (by rw [List.length_map]; omega); rw [List.length_map] at this; exact this) | (have := hI.newsD2 (k := i) (hE6.trans hx7) (by rw [List.length_map]; omega) (by rw [List.length_map]; omega); rw [List.length_map] at this; exact this)) (one_map _) (by omega) (by unfold maxLen; omega) ((hE6.trans hx7).size) ?_
                  intro v8 w8 hown8 hg8 hloc8 _
                  have hE8 := (hE6.trans hx7).grown hg8 (fun k e => (own_lt hown6 k e).1)
                  obtain ⟨A8, c8, rfl⟩ := own_slice hown8
                  have hR8 := row_join3 hown8 (add_len hi _ _)
                  refine hK _ _ hE8 ?_
                  clear hK K hx7 hown6 hg8 hloc8 hown8
                  refine wpZ_last (by kernel_rfl) rfl (by simp [Region.wanted, yielded]) ?_
                  intro w9 hx9 K hK
                  have hE9 := hE8.trans hx9
                  have hf9 := (h1.ext hE9).free
                  have hc9 := hc w9 hE9
                  go_simp
                  refine hK _ _ (wpZ_done (by kernel_rfl) (fun W2 hX2 => ?_) _)
                  have hR9 := OwnL.below hR8 hx9.below
                  generalize Value.slice A8 (i + 1 + (l.length - i)) c8 = v8 at hR9 hX2 ⊢
                  generalize Value.slice (some ⟨g1, 0, none⟩) 0 0 = u1
                  generalize Value.slice A3 i c3 = u2
                  generalize Value.slice (some ⟨gq, 0, none⟩) 1 1 = u3
                  generalize Value.slice A6 (i + 1) c6 = u4
                  exact ⟨u1, u2, u3, u4, v8, rfl, hfin v8 w9 W2 hE9 hR9 hX2⟩
              · intro w2 hx2 K hK
                go_simp
                have hEq := ((Ext.refl w).trans hx2).alloc (.cells #[.int .i64 id] 3)
                have hBq : Blk (w2.alloc (.cells #[.int .i64 id] 3)) w2.heap.size #[.int .i64 id] 3 := Blk.new _ _ _
                refine hK _ _ hEq ?_
                clear hK K hx2
                generalize w2.heap.size = gq at hBq  ⊢
                generalize w2.alloc _ = Wq at hBq hEq  ⊢
                refine wpZ_want (i := 1) (by kernel_rfl) rfl (by simp [Region.wanted, yielded]) ?_
                intro w1 hx1 K hK
                go_simp
                have hE1 := (hEq.trans hx1).alloc (.cells #[] 3)
                have hO1 : (w1.alloc (.cells #[] 3)).ownsRow w.heap.size 3 1 (.slice (some ⟨w1.heap.size, 0, none⟩) 0 0) 0 [] := own_empty_at rfl (hEq.trans hx1).size
                have hne : gq ≠ w1.heap.size := by have := (hBq.ext hx1).lt; omega
                have hBq := (hBq.ext hx1).alloc (.cells #[] 3)
                refine hK _ _ hE1 ?_
                clear hK K hx1
                generalize w1.heap.size = g1 at hO1 hne ⊢
                generalize w1.alloc _ = W1 at hO1 hE1 hBq ⊢
                refine wpZ_want (i := 8) (by kernel_rfl) rfl (by simp [Region.wanted, yielded]) ?_
                intro w3 hx3 K hK
                refine wp_append_row _ _ 44 rfl w.heap.size 3 Try.underlying44 infoPI rfl (by decide) _ 0 [] rfl (own_below hO1 hx3.below) _ i ci (((l.map (·.1)).take i).map (Value.int .i64)) rfl (by rw [List.length_map, List.length_take, List.length_map]; omega) (hI.newsT (hE1.trans hx3) (by rw [List.length_map]; omega)) (one_map _) (by omega) (by unfold maxLen; omega) ((hE1.trans hx3).size) ?_
                intro v4 w4 hown3 hg4 hloc4 _
                have hE3 := (hE1.trans hx3).grown hg4 (fun k e => (own_lt hO1 k e).1)
                have hBq := (hBq.ext hx3).grown hg4 (fun e => hne (Option.some.inj e).symm)
                obtain ⟨A3, c3, rfl⟩ := own_slice hown3
                rw [List.nil_append] at hown3
                simp only [Nat.zero_add] at hown3 ⊢
                refine hK _ _ hE3 ?_
                clear hK K hx3 hO1 hg4 hloc4
                refine wpZ_want (i := 11) (by kernel_rfl) rfl (by simp [Region.wanted, yielded]) ?_
                intro w5 hx5 K hK
                refine wp_append_row _ _ 44 rfl w.heap.size 3 Try.underlying44 infoPI rfl (by decide) _ i _ rfl (own_below hown3 hx5.below) (some ⟨gq, 0, none⟩) 1 1 ([id].map (Value.int .i64)) rfl rfl (fun _ => ⟨gq, 0, rfl, fun j u hu => by rw [Nat.zero_add, (hBq.ext hx5).cell, ← Array.getElem?_toList]; exact hu⟩) (one_map _) (by omega) (by unfold maxLen; omega) ((hE3.trans hx5).size) ?_
                intro v6 w6 hown6 hg6 hloc6 _
                have hE6 := (hE3.trans hx5).grown hg6 (fun k e => (own_lt hown3 k e).1)
                obtain ⟨A6, c6, rfl⟩ := own_slice hown6
                refine hK _ _ hE6 ?_
                clear hK K hx5 hown3 hg6 hloc6
                refine wpZ_want (i := 18) (by kernel_rfl) rfl (by simp [Region.wanted, yielded]) ?_
                intro w7 hx7 K hK
                refine wp_append_row _ _ 44 rfl w.heap.size 3 Try.underlying44 infoPI rfl (by decide) _ (i + 1) _ rfl (own_below hown6 hx7.below) _ (l.length - i) (ci - i) (((l.map (·.1)).drop i).map (Value.int .i64)) rfl (by rw [List.length_map, List.length_drop, List.length_map]; omega) (by first | (have := hI.newsD (k := i) (hE6.trans hx7) (by rw [List.length_map]; omega) (by rw [List.length_map]; omega); rw [List.length_map] at this; exact this) | (have := hI.newsD2 (k := i) (hE6.trans hx7) (by rw [List.length_map]; omega) (by rw [List.length_map]; omega); rw [List.length_map] at this; exact this)) (one_map _) (by omega) (by unfold maxLen; omega) ((hE6.trans hx7).size) ?_
                intro v8 w8 hown8 hg8 hloc8 _
                have hE8 := (hE6.trans hx7).grown hg8 (fun k e => (own_lt hown6 k e).1)
                obtain ⟨A8, c8, rfl⟩ := own_slice hown8
                have hR8 := row_join3 hown8 (add_len hi _ _)
                refine hK _ _ hE8 ?_
                clear hK K hx7 hown6 hg8 hloc8 hown8
                refine wpZ_last (by kernel_rfl) rfl (by simp [Region.wanted, yielded]) ?_
                intro w9 hx9 K hK
                have hE9 := hE8.trans hx9
                have hf9 := (h1.ext hE9).free
                have hc9 := hc w9 hE9
                go_simp
                refine hK _ _ (wpZ_done (by kernel_rfl) (fun W2 hX2 => ?_) _)
                have hR9 := OwnL.below hR8 hx9.below
                generalize Value.slice A8 (i + 1 + (l.length - i)) c8 = v8 at hR9 hX2 ⊢
                generalize Value.slice (some ⟨g1, 0, none⟩) 0 0 = u1
                generalize Value.slice A3 i c3 = u2
                generalize Value.slice (some ⟨gq, 0, none⟩) 1 1 = u3
                generalize Value.slice A6 (i + 1) c6 = u4
                exact ⟨u1, u2, u3, u4, v8, rfl, hfin v8 w9 W2 hE9 hR9 hX2⟩
            intro u1 u2 u3 u4 v8 W hM
            obtain ⟨hC, hB, hR, hV⟩ := hM
            generalize Value.slice (if ci = i then _ else _) (l.length - i) (ci - i) = jv
            have hN := RowI.ints hV
            have hc : ∀ w', Ext W w' → ∀ j, w'.cell? ⟨tb, j, none⟩ = #[v8, Value.slice An l.length cn][j]? := fun w' hx => (hB.ext hx).cell
            go_upto_region 7 with (fail)
            have hfin2 : ∀ (v9 : Value) (w9 W2 : World), Ext W w9 → OwnL encI w9 W.heap.size 2 1 v9 ((l.map (·.2)).take i ++ [a] ++ (l.map (·.2)).drop i) → Ext (w9.setCell ⟨tb, 1, none⟩ v9) W2 → Fin22 w W2 tb base v8 v9 ((l.map (·.1)).take i ++ [id] ++ (l.map (·.1)).drop i) ((l.map (·.2)).take i ++ [a] ++ (l.map (·.2)).drop i) := fun v9 w9 W2 hE hO hX => fin22 h1 h0 hsz0 hC hB hR hE hO hX
            refine' wp_region_mixZ5 (T := [1, 8, 10, 11, 18, 21]) (z := 21) (S := Ext W) (W := W) (fun v W2 => Fin22 w W2 tb base v8 v ((l.map (·.1)).take i ++ [id] ++ (l.map (·.1)).drop i) ((l.map (·.2)).take i ++ [a] ++ (l.map (·.2)).drop i)) (Ext.mono W) (by kernel_rfl) (by kernel_rfl) (by kernel_rfl) (Ext.refl W).drew (Ext.refl W) (fun K hK => ?_) ?_
            rotate_left 1
            · (repeat (first | (refine hX_skip ?_ ?_; (· rfl)) | (apply hX_and; (· rfl); (· rfl); (· rfl); (· rfl); (· rfl); simp only [Act.put, List.setIfInBounds_toArray, List.set_cons_zero, List.set_cons_succ]) | (apply hX_or; (· rfl); (· rfl); (· rfl); (· rfl); (· rfl); simp only [Act.put, List.setIfInBounds_toArray, List.set_cons_zero, List.set_cons_succ]) | (apply hX_off; (· rfl); (· rfl); (· rfl); simp only [Act.put, List.setIfInBounds_toArray, List.set_cons_zero, List.set_cons_succ]) | (apply hX_val; (· rfl); (· intro w hS; go_simp; with_reducible rfl); (· rfl); simp only [Act.put, List.setIfInBounds_toArray, List.set_cons_zero, List.set_cons_succ]) | (apply hX_call; (· rfl); (· rfl); (· intro w hS; go_simp; exact ⟨rfl, rfl⟩); (· intro w hS; fail); simp only [Act.put, List.setIfInBounds_toArray, List.set_cons_zero, List.set_cons_succ]) | (apply hX_if; (· rfl); (· rfl); (· rfl); (· intro hif w hS; go_simp; with_reducible rfl); simp only [Act.put, List.setIfInBounds_toArray, List.set_cons_zero, List.set_cons_succ]) | (apply hX_ifcall; (· rfl); (· rfl); (· rfl); (· intro hif w hS; go_simp; exact ⟨rfl, rfl⟩); (· intro hif w hS; fail); simp only [Act.put, List.setIfInBounds_toArray, List.set_cons_zero, List.set_cons_succ]))); refine hX_nil ?_
              refine hK _ ?_
              clear hK K
              refine wpZ_two (i := 1) (j := 10) (by kernel_rfl) rfl rfl rfl rfl ?_ ?_
              · intro w1 hx1 K hK
                go_simp
                have hE1 := ((Ext.refl W).trans hx1).alloc (.cells #[] 2)
                have hO1 : (w1.alloc (.cells #[] 2)).ownsRow W.heap.size 2 1 (.slice (some ⟨w1.heap.size, 0, none⟩) 0 0) 0 [] := own_empty_at rfl ((Ext.refl W).trans hx1).size
                refine hK _ _ hE1 ?_
                clear hK K hx1
                generalize w1.heap.size = g1 at hO1  ⊢
                generalize w1.alloc _ = W1 at hO1 hE1  ⊢
                refine wpZ_two (i := 8) (j := 10) (by kernel_rfl) rfl rfl rfl rfl ?_ ?_
                · intro w3 hx3 K hK
                  refine wp_append_row _ _ 31 rfl W.heap.size 2 Try.underlying31 infoI64 rfl (by decide) _ 0 [] rfl (own_below hO1 hx3.below) _ i cn (((l.map (·.2)).take i).map (Value.int .i64)) rfl (by rw [List.length_map, List.length_take, List.length_map]; omega) (hN.newsT (hE1.trans hx3) (by rw [List.length_map]; omega)) (one_map _) (by omega) (by unfold maxLen; omega) ((hE1.trans hx3).size) ?_
                  intro v4 w4 hown3 hg4 hloc4 _
                  have hE3 := (hE1.trans hx3).grown hg4 (fun k e => (own_lt hO1 k e).1)
                  obtain ⟨A3, c3, rfl⟩ := own_slice hown3
                  rw [List.nil_append] at hown3
                  simp only [Nat.zero_add] at hown3 ⊢
                  refine hK _ _ hE3 ?_
                  clear hK K hx3 hO1 hg4 hloc4
                  refine wpZ_want (i := 10) (by kernel_rfl) rfl (by simp [Region.wanted, yielded]) ?_
                  intro w2 hx2 K hK
                  go_simp
                  have hEq := (hE3.trans hx2).alloc (.cells #[.int .i64 a] 2)
                  have hBq : Blk (w2.alloc (.cells #[.int .i64 a] 2)) w2.heap.size #[.int .i64 a] 2 := Blk.new _ _ _
                  have hown3 := own_below hown3 (hx2.alloc (.cells #[.int .i64 a] 2)).below
                  refine hK _ _ hEq ?_
                  clear hK K hx2
                  generalize w2.heap.size = gq at hBq  ⊢
                  generalize w2.alloc _ = Wq at hBq hEq hown3 ⊢
                  refine wpZ_want (i := 11) (by kernel_rfl) rfl (by simp [Region.wanted, yielded]) ?_
                  intro w5 hx5 K hK
                  refine wp_append_row _ _ 31 rfl W.heap.size 2 Try.underlying31 infoI64 rfl (by decide) _ i _ rfl (own_below hown3 hx5.below) (some ⟨gq, 0, none⟩) 1 1 ([a].map (Value.int .i64)) rfl rfl (fun _ => ⟨gq, 0, rfl, fun j u hu => by rw [Nat.zero_add, (hBq.ext hx5).cell, ← Array.getElem?_toList]; exact hu⟩) (one_map _) (by omega) (by unfold maxLen; omega) ((hEq.trans hx5).size) ?_
                  intro v6 w6 hown6 hg6 hloc6 _
                  have hE6 := (hEq.trans hx5).grown hg6 (fun k e => (own_lt hown3 k e).1)
                  obtain ⟨A6, c6, rfl⟩ := own_slice hown6
                  refine hK _ _ hE6 ?_
                  clear hK K hx5 hown3 hg6 hloc6
                  refine wpZ_want (i := 18) (by kernel_rfl) rfl (by simp [Region.wanted, yielded]) ?_
                  intro w7 hx7 K hK
                  refine wp_append_row _ _ 31 rfl W.heap.size 2 Try.underlying31 infoI64 rfl (by decide) _ (i + 1) _ rfl (own_below hown6 hx7.below) _ (l.length - i) (cn - i) (((l.map (·.2)).drop i).map (Value.int .i64)) rfl (by rw [List.length_map, List.length_drop, List.length_map]; omega) (by first | (have := hN.newsD (k := i) (hE6.trans hx7) (by rw [List.length_map]; omega) (by rw [List.length_map]; omega); rw [List.length_map] at this; exact this) | (have := hN.newsD2 (k := i) (hE6.trans hx7) (by rw [List.length_map]; omega) (by rw [List.length_map]; omega); rw [List.length_map] at this; exact this)) (one_map _) (by omega) (by unfold maxLen; omega) ((hE6.trans hx7).size) ?_
                  intro v8 w8 hown8 hg8 hloc8 _
                  have hE8 := (hE6.trans hx7).grown hg8 (fun k e => (own_lt hown6 k e).1)
                  obtain ⟨A8, c8, rfl⟩ := own_slice hown8
                  have hR8 := row_join3 hown8 (add_len hi _ _)
                  refine hK _ _ hE8 ?_
                  clear hK K hx7 hown6 hg8 hloc8 hown8
                  refine wpZ_last (by kernel_rfl) rfl (by simp [Region.wanted, yielded]) ?_
                  intro w9 hx9 K hK
                  have hE9 := hE8.trans hx9
                  have hf9 := (hB.ext hE9).free
                  have hc9 := hc w9 hE9
                  go_simp
                  refine hK _ _ (wpZ_done (by kernel_rfl) (fun W2 hX2 => ?_) _)
                  have hR9 := OwnL.below hR8 hx9.below
                  generalize Value.slice A8 (i + 1 + (l.length - i)) c8 = v8 at hR9 hX2 ⊢
                  generalize Value.slice (some ⟨g1, 0, none⟩) 0 0 = u1
                  generalize Value.slice A3 i c3 = u2
                  generalize Value.slice (some ⟨gq, 0, none⟩) 1 1 = u3
                  generalize Value.slice A6 (i + 1) c6 = u4
                  exact ⟨u1, u2, u3, u4, v8, rfl, hfin2 v8 w9 W2 hE9 hR9 hX2⟩
                · intro w2 hx2 K hK
                  go_simp
                  have hEq := (hE1.trans hx2).alloc (.cells #[.int .i64 a] 2)
                  have hBq : Blk (w2.alloc (.cells #[.int .i64 a] 2)) w2.heap.size #[.int .i64 a] 2 := Blk.new _ _ _
                  have hne : w2.heap.size ≠ g1 := by have := (own_lt hO1 g1 rfl).2; have h8 := hx2.size; omega
                  have hO1 := own_below hO1 (hx2.alloc (.cells #[.int .i64 a] 2)).below
                  refine hK _ _ hEq ?_
                  clear hK K hx2
                  generalize w2.heap.size = gq at hBq hne ⊢
                  generalize w2.alloc _ = Wq at hBq hEq hO1 ⊢
                  refine wpZ_want (i := 8) (by kernel_rfl) rfl (by simp [Region.wanted, yielded]) ?_
                  intro w3 hx3 K hK
                  refine wp_append_row _ _ 31 rfl W.heap.size 2 Try.underlying31 infoI64 rfl (by decide) _ 0 [] rfl (own_below hO1 hx3.below) _ i cn (((l.map (·.2)).take i).map (Value.int .i64)) rfl (by rw [List.length_map, List.length_take, List.length_map]; omega) (hN.newsT (hEq.trans hx3) (by rw [List.length_map]; omega)) (one_map _) (by omega) (by unfold maxLen; omega) ((hEq.trans hx3).size) ?_
                  intro v4 w4 hown3 hg4 hloc4 _
                  have hE3 := (hEq.trans hx3).grown hg4 (fun k e => (own_lt hO1 k e).1)
                  have hBq := (hBq.ext hx3).grown hg4 (fun e => hne (Option.some.inj e).symm)
                  obtain ⟨A3, c3, rfl⟩ := own_slice hown3
                  rw [List.nil_append] at hown3
                  simp only [Nat.zero_add] at hown3 ⊢
                  refine hK _ _ hE3 ?_
                  clear hK K hx3 hO1 hg4 hloc4
                  refine wpZ_want (i := 11) (by kernel_rfl) rfl (by simp [Region.wanted, yielded]) ?_
                  intro w5 hx5 K hK
                  refine wp_append_row _ _ 31 rfl W.heap.size 2 Try.underlying31 infoI64 rfl (by decide) _ i _ rfl (own_below hown3 hx5.below) (some ⟨gq, 0, none⟩) 1 1 ([a].map (Value.int .i64)) rfl rfl (fun _ => ⟨gq, 0, rfl, fun j u hu => by rw [Nat.zero_add, (hBq.ext hx5).cell, ← Array.getElem?_toList]; exact hu⟩) (one_map _) (by omega) (by unfold maxLen; omega) ((hE3.trans hx5).size) ?_
                  intro v6 w6 hown6 hg6 hloc6 _
                  have hE6 := (hE3.trans hx5).grown hg6 (fun k e => (own_lt hown3 k e).1)
                  obtain ⟨A6, c6, rfl⟩ := own_slice hown6
                  refine hK _ _ hE6 ?_
                  clear hK K hx5 hown3 hg6 hloc6
                  refine wpZ_want (i := 18) (by kernel_rfl) rfl (by simp [Region.wanted, yielded]) ?_
                  intro w7 hx7 K hK
                  refine wp_append_row _ _ 31 rfl W.heap.size 2 Try.underlying31 infoI64 rfl (by decide) _ (i + 1) _ rfl (own_below hown6 hx7.below) _ (l.length - i) (cn - i) (((l.map (·.2)).drop i).map (Value.int .i64)) rfl (by rw [List.length_map, List.length_drop, List.length_map]; omega) (by first | (have := hN.newsD (k := i) (hE6.trans hx7) (by rw [List.length_map]; omega) (by rw [List.length_map]; omega); rw [List.length_map] at this; exact this) | (have := hN.newsD2 (k := i) (hE6.trans hx7) (by rw [List.length_map]; omega) (by rw [List.length_map]; omega); rw [List.length_map] at this; exact this)) (one_map _) (by omega) (by unfold maxLen; omega) ((hE6.trans hx7).size) ?_
                  intro v8 w8 hown8 hg8 hloc8 _
                  have hE8 := (hE6.trans hx7).grown hg8 (fun k e => (own_lt hown6 k e).1)
                  obtain ⟨A8, c8, rfl⟩ := own_slice hown8
                  have hR8 := row_join3 hown8 (add_len hi _ _)
                  refine hK _ _ hE8 ?_
                  clear hK K hx7 hown6 hg8 hloc8 hown8
                  refine wpZ_last (by kernel_rfl) rfl (by simp [Region.wanted, yielded]) ?_
                  intro w9 hx9 K hK
                  have hE9 := hE8.trans hx9
                  have hf9 := (hB.ext hE9).free
                  have hc9 := hc w9 hE9
                  go_simp
                  refine hK _ _ (wpZ_done (by kernel_rfl) (fun W2 hX2 => ?_) _)
                  have hR9 := OwnL.below hR8 hx9.below
                  generalize Value.slice A8 (i + 1 + (l.length - i)) c8 = v8 at hR9 hX2 ⊢
                  generalize Value.slice (some ⟨g1, 0, none⟩) 0 0 = u1
                  generalize Value.slice A3 i c3 = u2
                  generalize Value.slice (some ⟨gq, 0, none⟩) 1 1 = u3
                  generalize Value.slice A6 (i + 1) c6 = u4
                  exact ⟨u1, u2, u3, u4, v8, rfl, hfin2 v8 w9 W2 hE9 hR9 hX2⟩
              · intro w2 hx2 K hK
                go_simp
                have hEq := ((Ext.refl W).trans hx2).alloc (.cells #[.int .i64 a] 2)
                have hBq : Blk (w2.alloc (.cells #[.int .i64 a] 2)) w2.heap.size #[.int .i64 a] 2 := Blk.new _ _ _
                refine hK _ _ hEq ?_
                clear hK K hx2
                generalize w2.heap.size = gq at hBq  ⊢
                generalize w2.alloc _ = Wq at hBq hEq  ⊢
                refine wpZ_want (i := 1) (by kernel_rfl) rfl (by simp [Region.wanted, yielded]) ?_
                intro w1 hx1 K hK
                go_simp
                have hE1 := (hEq.trans hx1).alloc (.cells #[] 2)
                have hO1 : (w1.alloc (.cells #[] 2)).ownsRow W.heap.size 2 1 (.slice (some ⟨w1.heap.size, 0, none⟩) 0 0) 0 [] := own_empty_at rfl (hEq.trans hx1).size
                have hne : gq ≠ w1.heap.size := by have := (hBq.ext hx1).lt; omega
                have hBq := (hBq.ext hx1).alloc (.cells #[] 2)
                refine hK _ _ hE1 ?_
                clear hK K hx1
                generalize w1.heap.size = g1 at hO1 hne ⊢
                generalize w1.alloc _ = W1 at hO1 hE1 hBq ⊢
                refine wpZ_want (i := 8) (by kernel_rfl) rfl (by simp [Region.wanted, yielded]) ?_
                intro w3 hx3 K hK
                refine wp_append_row _ _ 31 rfl W.heap.size 2 Try.underlying31 infoI64 rfl (by decide) _ 0 [] rfl (own_below hO1 hx3.below) _ i cn (((l.map (·.2)).take i).map (Value.int .i64)) rfl (by rw [List.length_map, List.length_take, List.length_map]; omega) (hN.newsT (hE1.trans hx3) (by rw [List.length_map]; omega)) (one_map _) (by omega) (by unfold maxLen; omega) ((hE1.trans hx3).size) ?_
                intro v4 w4 hown3 hg4 hloc4 _
                have hE3 := (hE1.trans hx3).grown hg4 (fun k e => (own_lt hO1 k e).1)
                have hBq := (hBq.ext hx3).grown hg4 (fun e => hne (Option.some.inj e).symm)
                obtain ⟨A3, c3, rfl⟩ := own_slice hown3
                rw [List.nil_append] at hown3
                simp only [Nat.zero_add] at hown3 ⊢
                refine hK _ _ hE3 ?_
                clear hK K hx3 hO1 hg4 hloc4
                refine wpZ_want (i := 11) (by kernel_rfl) rfl (by simp [Region.wanted, yielded]) ?_
                intro w5 hx5 K hK
                refine wp_append_row _ _ 31 rfl W.heap.size 2 Try.underlying31 infoI64 rfl (by decide) _ i _ rfl (own_below hown3 hx5.below) (some ⟨gq, 0, none⟩) 1 1 ([a].map (Value.int .i64)) rfl rfl (fun _ => ⟨gq, 0, rfl, fun j u hu => by rw [Nat.zero_add, (hBq.ext hx5).cell, ← Array.getElem?_toList]; exact hu⟩) (one_map _) (by omega) (by unfold maxLen; omega) ((hE3.trans hx5).size) ?_
                intro v6 w6 hown6 hg6 hloc6 _
                have hE6 := (hE3.trans hx5).grown hg6 (fun k e => (own_lt hown3 k e).1)
                obtain ⟨A6, c6, rfl⟩ := own_slice hown6
                refine hK _ _ hE6 ?_
                clear hK K hx5 hown3 hg6 hloc6
                refine wpZ_want (i := 18) (by kernel_rfl) rfl (by simp [Region.wanted, yielded]) ?_
                intro w7 hx7 K hK
                refine wp_append_row _ _ 31 rfl W.heap.size 2 Try.underlying31 infoI64 rfl (by decide) _ (i + 1) _ rfl (own_below hown6 hx7.below) _ (l.length - i) (cn - i) (((l.map (·.2)).drop i).map (Value.int .i64)) rfl (by rw [List.length_map, List.length_drop, List.length_map]; omega) (by first | (have := hN.newsD (k := i) (hE6.trans hx7) (by rw [List.length_map]; omega) (by rw [List.length_map]; omega); rw [List.length_map] at this; exact this) | (have := hN.newsD2 (k := i) (hE6.trans hx7) (by rw [List.length_map]; omega) (by rw [List.length_map]; omega); rw [List.length_map] at this; exact this)) (one_map _) (by omega) (by unfold maxLen; omega) ((hE6.trans hx7).size) ?_
                intro v8 w8 hown8 hg8 hloc8 _
                have hE8 := (hE6.trans hx7).grown hg8 (fun k e => (own_lt hown6 k e).1)
                obtain ⟨A8, c8, rfl⟩ := own_slice hown8
                have hR8 := row_join3 hown8 (add_len hi _ _)
                refine hK _ _ hE8 ?_
                clear hK K hx7 hown6 hg8 hloc8 hown8
                refine wpZ_last (by kernel_rfl) rfl (by simp [Region.wanted, yielded]) ?_
                intro w9 hx9 K hK
                have hE9 := hE8.trans hx9
                have hf9 := (hB.ext hE9).free
                have hc9 := hc w9 hE9
                go_simp
                refine hK _ _ (wpZ_done (by kernel_rfl) (fun W2 hX2 => ?_) _)
                have hR9 := OwnL.below hR8 hx9.below
                generalize Value.slice A8 (i + 1 + (l.length - i)) c8 = v8 at hR9 hX2 ⊢
                generalize Value.slice (some ⟨g1, 0, none⟩) 0 0 = u1
                generalize Value.slice A3 i c3 = u2
                generalize Value.slice (some ⟨gq, 0, none⟩) 1 1 = u3
                generalize Value.slice A6 (i + 1) c6 = u4
                exact ⟨u1, u2, u3, u4, v8, rfl, hfin2 v8 w9 W2 hE9 hR9 hX2⟩
            intro u5 u6 u7 u8 v9 W2 hM
            generalize Value.slice (if cn = i then _ else _) (l.length - i) (cn - i) = jv2
            go_wp2_with (fail)
            go_ret
            refine ⟨by rw [HZ.out]; rfl, ?_, hM.1⟩
            have e : addR f l id a = addL l id a := by unfold addR; rw [if_pos HZ.out]
            rw [e]
            have hen2 : i = insI l id := hen1.out
            rw [hen2] at hM
            exact hM.rt
  · have HZ := Lib.hid (show addB f id a = false by rw [hb, (hA.2 id (l[i]).2).2 (by rw [← hid]; exact List.getElem_mem hi)]; simp)
    clear hb hf hI hid
    go_wp2_with (fail)
    go_ret
    exact ⟨by rw [HZ.out]; rfl, H0.out HZ.out, Chg.refl _ _⟩
end Go.Proofs.Ytenamokjbbiecaa

