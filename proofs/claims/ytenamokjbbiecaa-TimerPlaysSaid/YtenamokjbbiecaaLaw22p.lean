/- TimerPlays. -/
import Derived.Test.YtenamokjbbiecaaProg
import Derived.Test.YtenamokjbbiecaaBase
import Derived.Test.YtenamokjbbiecaaHeldX
import Derived.Test.YtenamokjbbiecaaApp
import Derived.Test.YtenamokjbbiecaaExt0
import Derived.Test.YtenamokjbbiecaaChg
import Derived.Test.YtenamokjbbiecaaMapR
import Derived.Test.YtenamokjbbiecaaMapF
import Derived.Test.YtenamokjbbiecaaTimP
import Derived.Test.YtenamokjbbiecaaTim
import Derived.Test.YtenamokjbbiecaaTimT
import Derived.Test.YtenamokjbbiecaaTskI
import Derived.Test.YtenamokjbbiecaaLaw22k
import Derived.Test.YtenamokjbbiecaaOpenI
import Derived.Test.YtenamokjbbiecaaRt
import Derived.Test.YtenamokjbbiecaaRt2
import Derived.Test.YtenamokjbbiecaaRt3
import Derived.Test.YtenamokjbbiecaaRt4
import Derived.Deep.Cut
import Derived.Lib.Hide
import Derived.OwnWalk
namespace Go.Proofs.Ytenamokjbbiecaa
open Go.RowKit
attribute [local go_sem] setCell_twice ByteArray.toList_eq str_list Ext.alloc Ext.drew
set_option linter.unusedSimpArgs false
set_option maxRecDepth 100000
set_option maxHeartbeats 12800000
attribute [local irreducible] Calls

theorem MapF.notBlk {w : World} {P : Program} {k e : TypeId} {b n : Nat} {f : Int → Option Int} (h : MapF P k e w b n f) {g : Nat} {cs : Array Value} {t : TypeId} (hB : Blk w g cs t) : g ≠ b := by
  rintro rfl
  obtain ⟨D, ⟨es, clock, hb, _⟩, _⟩ := h
  unfold Blk at hB
  rw [hb] at hB
  cases hB
theorem MapF.chgT {w w' : World} {P : Program} {k e : TypeId} {b n base : Nat} {f : Int → Option Int} {ts : List TypeId} (h : MapF P k e w b n f) (hc : Chg (OfT w base ts) w w') : MapF P k e w' b n f := by
  have hn : ¬ OfT w base ts b := by
    rintro ⟨_, t, _, cs, hB⟩
    exact h.notBlk hB rfl
  obtain ⟨D, h1, h2⟩ := h
  have hl := h1.lt
  obtain ⟨es, clock, hb, rest⟩ := h1
  exact ⟨D, ⟨es, clock, (hc.block b hl hn).trans hb, rest⟩, h2⟩
theorem TmAt.chgT {w w' : World} {tb bm n base : Nat} {f : Int → Option Int} (h : TmAt w tb bm n f) (hc : Chg (OfT w base [46, 2]) w w') : TmAt w' tb bm n f := ⟨h.1.chg hc (h.1.notT (by decide)), h.2.chgT hc⟩
theorem RtAt.grownM {w w' : World} {P : Program} {k e : TypeId} {xb base b n : Nat} {f : Int → Option Int} {l : List (Int × Int)} (h : RtAt w xb base l) (hm : MapF P k e w b n f) (hg : w.grownBy w' (some b)) : RtAt w' xb base l := by
  obtain ⟨h0, vi, vn, h1, h2, h3⟩ := h
  exact ⟨h0, vi, vn, h1.grown hg (fun e => hm.notBlk h1 (Option.some.inj e).symm), OwnL.grown h2 hg (fun j hj e => own_ne_map h2 hm (by rw [hj, e])), OwnL.grown h3 hg (fun j hj e => own_ne_map h3 hm (by rw [hj, e]))⟩
/-- the numbers of ticks as they may be -/
def FB (f : Int → Option Int) : Prop := ∀ x m, f x = some m → 0 ≤ m ∧ m ≤ 1099511627776
theorem add_iff {f : Int → Option Int} {id a : Int} : addB f id a = true ↔ (0 ≤ a ∧ a ≤ 1099511627776) ∧ f id = none := by
  unfold addB
  simp only [Bool.and_eq_true, decide_eq_true_eq, Bool.not_eq_true', Option.isSome_eq_false_iff, Option.isNone_iff_eq_none]
theorem FB.add {f : Int → Option Int} (h : FB f) (id a : Int) : FB (addF f id a) := by
  unfold addF
  split
  · rename_i hb
    intro x m hx
    unfold upd at hx
    split at hx
    · cases hx; exact (add_iff.1 hb).1
    · exact h x m hx
  · exact h
theorem FB.drop {f : Int → Option Int} (h : FB f) (id : Int) : FB (upd f id none) := by
  intro x m hx
  unfold upd at hx
  split at hx
  · cases hx
  · exact h x m hx
theorem FB.tick {f : Int → Option Int} (h : FB f) : FB (tickF f) := by
  intro x m hx
  unfold tickF at hx
  cases hf : f x with
  | none => rw [hf] at hx; cases hx
  | some k =>
    rw [hf] at hx
    have := h x k hf
    dsimp only at hx
    split at hx
    · cases hx
    · injection hx with hx; omega
theorem agr_add {f : Int → Option Int} {l : List (Int × Int)} (h : Agr2 f l) (id a : Int) : Agr2 (addF f id a) (addR f l id a) := by
  unfold addF addR
  by_cases hb : addB f id a = true
  · rw [if_pos hb, if_pos hb]
    exact h.add (add_iff.1 hb).2 a
  · rw [if_neg hb, if_neg hb]; exact h
theorem len_add (f : Int → Option Int) (l : List (Int × Int)) (id a : Int) : (addR f l id a).length ≤ l.length + 1 := by
  unfold addR
  split
  · unfold addL
    have := ins_le l id
    simp
    omega
  · omega
theorem len_drop (l : List (Int × Int)) (id : Int) : (dropL l id).length ≤ l.length := List.length_filter_le _ _
theorem len_tick (l : List (Int × Int)) : (tickL l).length ≤ l.length := by
  unfold tickL
  have : ∀ (zs : List Int) (m : List (Int × Int)), (zs.foldl dropL m).length ≤ m.length := by
    intro zs
    induction zs with
    | nil => intro m; exact Nat.le_refl _
    | cons z zs ih => intro m; exact Nat.le_trans (ih _) (List.length_filter_le _ _)
  refine Nat.le_trans (this _ _) ?_
  unfold decL
  simp
theorem FB.list {f : Int → Option Int} {l : List (Int × Int)} (h : FB f) (ha : Agr2 f l) : ∀ p ∈ l, 0 ≤ p.2 ∧ p.2 ≤ 1099511627776 := fun p hp => h p.1 p.2 ((ha.2 _ _).2 hp)
/-- both timers, alike -/
structure P22 (W0 w : World) (tb bm n xb : Nat) (f : Int → Option Int) (l : List (Int × Int)) : Prop where
  tm : TmAt w tb bm n f
  rt : RtAt w xb W0.heap.size l
  agr : Agr2 f l
  fb : FB f
  len : l.length ≤ n
  ext : Ext W0 w
  bm : W0.heap.size ≤ bm
theorem P22.more {W0 w w' : World} {tb bm n xb : Nat} {f : Int → Option Int} {l : List (Int × Int)} (h : P22 W0 w tb bm n xb f l) (hx : Ext w w') : P22 W0 w' tb bm n xb f l :=
  ⟨h.tm.ext hx, h.rt.ext hx, h.agr, h.fb, h.len, h.ext.trans hx, h.bm⟩
theorem P22.up {W0 w : World} {tb bm n m xb : Nat} {f : Int → Option Int} {l : List (Int × Int)} (h : P22 W0 w tb bm n xb f l) (hm : n ≤ m) : P22 W0 w tb bm m xb f l :=
  ⟨⟨h.tm.1, h.tm.2.mono hm⟩, h.rt, h.agr, h.fb, Nat.le_trans h.len hm, h.ext, h.bm⟩
/-- out of the steps of both -/
theorem P22.step {W0 w w1 w2 : World} {tb bm n m xb : Nat} {f f' : Int → Option Int} {l l' : List (Int × Int)} (h : P22 W0 w tb bm n xb f l) (hT : TmAt w1 tb bm m f') (hg : w.grownBy w1 (some bm)) {wx : World} (hx : Ext w1 wx)
    (hR : RtAt w2 xb W0.heap.size l') (hc : Chg (OfT wx W0.heap.size [46, 2]) wx w2) (ha : Agr2 f' l') (hf : FB f') (hl : l'.length ≤ m) : P22 W0 w2 tb bm m xb f' l' :=
  ⟨(hT.ext hx).chgT hc, hR, ha, hf, hl, ((h.ext.grown hg (fun k e => by cases e; exact h.bm)).trans hx).chg hc (fun k hk => hk.1), h.bm⟩
theorem timerPlays_walk (v : Value) (xs : List (Int × Int × Int)) (w : World) (hv : SlR ActR 3 Any w v xs ∧ ∀ x ∈ xs, (Lit.int .i64 x.2.1).wf = true ∧ (Lit.int .i64 x.2.2).wf = true) :
    Calls Try.prog 5 #[v] w fun e w' => e = .returned (.bool true) ∧ Below w.heap.size w w' := by
  obtain ⟨hI, hwf⟩ := hv
  obtain ⟨A, c, e0, g1, g2⟩ := hI.form
  subst e0
  unfold maxLen at g2
  have HWF := Lib.hid hwf
  clear hwf
  go_enter Try.func5, Try.ntmps5
  by_cases hlen : 100 < xs.length
  · go_wp2_with (fail)
    go_ret
    exact ⟨rfl, Below.refl _ _⟩
  · go_wp2_with (fail)
    refine (new_any w).mono ?_
    rintro e w2 ⟨tb, bm, rfl, hT, ht, hm2, hX2⟩
    clear ht
    go_wp2_with (fail)
    have hA2 := (Ext.refl w2).alloc (.cells #[.slice none 0 0, .slice none 0 0] 46)
    have hP0 : P22 w (w2.alloc (.cells #[.slice none 0 0, .slice none 0 0] 46)) tb bm 0 w2.heap.size (fun _ => none) [] :=
      ⟨hT.ext hA2, ⟨hX2.size, _, _, Blk.new _ _ _, OwnL.nil, OwnL.nil⟩, Agr2.start, fun x m h => (by cases h), Nat.le_refl _, hX2.trans hA2, hm2⟩
    clear hT hm2 hX2
    generalize w2.alloc _ = W2 at hA2 hP0 ⊢
    generalize w2.heap.size = xb at hP0 ⊢
    clear hA2
    go_loopw [5] (fun i wr => ∃ (k : Nat) (f : Int → Option Int) (l : List (Int × Int)), k ≤ xs.length ∧ i = .int .i64 k ∧ P22 w wr tb bm k xb f l) (fun i _ => xs.length - (intOf i).toNat)
    case atStart => exact ⟨0, _, _, Nat.zero_le _, rfl, hP0⟩
    case round =>
      obtain ⟨k, f, l, hk, rfl, hP⟩ := hrel
      clear hP0
      by_cases hlt : k < xs.length
      · obtain ⟨b, o, rfl, hx⟩ := hI.at hlt
        have hw := HWF.out _ (List.getElem_mem hlt)
        generalize xs[k] = x at hx hw
        obtain ⟨kd, id, a⟩ := x
        obtain ⟨hx0, hx1, hx2⟩ := hx.ext hP.ext
        dsimp only at hx0 hx1 hx2 hw
        obtain ⟨hw1, hw2⟩ := hw
        have HW1 := Lib.hid hw1
        have HW2 := Lib.hid hw2
        clear hw1 hw2 hx
        go_upto_region 9 with (fail)
        have hA3 := (Ext.refl wr).alloc (.cells #[.int .i64 kd, .int .i64 id, .int .i64 a] 48)
        have hB3 : Blk (wr.alloc (.cells #[.int .i64 kd, .int .i64 id, .int .i64 a] 48)) wr.heap.size #[.int .i64 kd, .int .i64 id, .int .i64 a] 48 := Blk.new _ _ _
        have hP3 := hP.more hA3
        clear hP hA3 hx0 hx1 hx2
        generalize wr.alloc _ = W3 at hB3 hP3 ⊢
        generalize wr.heap.size = ga at hB3 ⊢
        have hSA : ∀ q, Blk q ga #[.int .i64 kd, .int .i64 id, .int .i64 a] 48 → ∀ j, q.cell? ⟨ga, j, none⟩ = #[.int .i64 kd, .int .i64 id, .int .i64 a][j]? := fun q h => h.cell
        have key : ∀ (f' : Int → Option Int) (l' : List (Int × Int)) (W : World), P22 w W tb bm (k + 1) xb f' l' → Blk W ga #[.int .i64 kd, .int .i64 id, .int .i64 a] 48 → Calls Try.prog 26 #[.pointer (some ⟨tb, 0, none⟩), .int .i64 id] W (fun e w' => e = .returned (.tuple #[.int .i64 ((f' id).getD 0), .bool (f' id).isSome]) ∧ W = w') ∧ Calls Try.prog 27 #[.pointer (some ⟨xb, 0, none⟩), .int .i64 id] W (fun e w' => e = .returned (.tuple #[.int .i64 ((f' id).getD 0), .bool (f' id).isSome]) ∧ W = w') :=
          fun f' l' W h _ => ⟨left_any tb bm _ f' id W h.tm HW1.out, left22_any xb _ l' f' id W h.rt h.agr⟩
        have KEY := Lib.hid key
        clear key
        have hcW := hSA W3 hB3
        go_wp2_with (fail)
        · refine wp_region_mix (T := [5, 11, 12, 13]) (S := fun q => Blk q ga #[.int .i64 kd, .int .i64 id, .int .i64 a] 48) (W := W3) (fun _ _ h hx => Blk.ext h hx) (by kernel_rfl) (by kernel_rfl) (Ext.refl W3).drew hB3 (fun _ _ h => h) (fun K hK => ?_)
          (repeat (first | (refine hX_skip ?_ ?_; (· rfl)) | (apply hX_and; (· rfl); (· rfl); (· rfl); (· rfl); (· rfl); simp only [Act.put, List.setIfInBounds_toArray, List.set_cons_zero, List.set_cons_succ]) | (apply hX_or; (· rfl); (· rfl); (· rfl); (· rfl); (· rfl); simp only [Act.put, List.setIfInBounds_toArray, List.set_cons_zero, List.set_cons_succ]) | (apply hX_off; (· rfl); (· rfl); (· rfl); simp only [Act.put, List.setIfInBounds_toArray, List.set_cons_zero, List.set_cons_succ]) | (apply hX_val; (· rfl); (· intro w hS; go_simp; with_reducible rfl); (· rfl); simp only [Act.put, List.setIfInBounds_toArray, List.set_cons_zero, List.set_cons_succ]) | (apply hX_call; (· rfl); (· rfl); (· intro w hS; go_simp; exact ⟨rfl, rfl⟩); (· intro w hS; fail); simp only [Act.put, List.setIfInBounds_toArray, List.set_cons_zero, List.set_cons_succ]) | (apply hX_if; (· rfl); (· rfl); (· rfl); (· intro hif w hS; go_simp; with_reducible rfl); simp only [Act.put, List.setIfInBounds_toArray, List.set_cons_zero, List.set_cons_succ]) | (apply hX_ifcall; (· rfl); (· rfl); (· rfl); (· intro hif w hS; go_simp; exact ⟨rfl, rfl⟩); (· intro hif w hS; fail); simp only [Act.put, List.setIfInBounds_toArray, List.set_cons_zero, List.set_cons_succ]))); refine hX_nil ?_
          refine hK _ ?_
          clear hK K hcW
          refine wpX_want (i := 5) (by kernel_rfl) rfl (by simp [Region.wanted, yielded]) ?_
          intro w4 hx4 K hK
          go_simp
          have hP4 := hP3.more hx4
          have hB4 := hB3.ext hx4
          refine (add_any tb bm k f id a w4 hP4.tm (by omega) HW1.out HW2.out).mono ?_
          rintro e w5 ⟨rfl, hT5, hg5⟩
          have hB5 := hB4.grown hg5 (fun e => hP4.tm.2.notBlk hB4 (Option.some.inj e).symm)
          have hR5 := hP4.rt.grownM hP4.tm.2 hg5
          refine hK _ _ hB5 ?_
          clear hK K hx4 hP3 hB3
          refine wpX_want (i := 11) (by kernel_rfl) rfl (by simp [Region.wanted, yielded]) ?_
          intro w6 hx6 K hK
          go_simp
          refine (add22_any xb _ l f id a w6 (hR5.ext hx6) hP4.agr (by have := hP4.len; omega)).mono ?_
          rintro e w7 ⟨rfl, hR7, hc7⟩
          have hP7 := hP4.step hT5 hg5 hx6 hR7 hc7 (agr_add hP4.agr id a) (hP4.fb.add id a) (by have := len_add f l id a; have := hP4.len; omega)
          have hB7 := (hB5.ext hx6).chg hc7 ((hB5.ext hx6).notT (by decide))
          refine hK _ _ hB7 ?_
          clear hK K hx6 hR7 hc7 hR5 hB5 hT5 hg5 hP4 hB4
          generalize addB f id a = zz
          refine wpX_want (i := 12) (by kernel_rfl) rfl (by simp [Region.wanted, yielded]) ?_
          intro w8 hx8 K hK
          have hP8 := hP7.more hx8
          have hB8 := hB7.ext hx8
          go_simp
          refine hK _ _ hB8 ?_
          clear hK K hx8 hP7 hB7
          refine wpX_want (i := 13) (by kernel_rfl) rfl (by simp [Region.wanted, yielded]) ?_
          intro w9 hx9 K hK
          have hP9 := hP8.more hx9
          have hB9 := hB8.ext hx9
          go_simp
          refine hK _ _ hB9 ?_
          clear hK K hx9 hP8 hB8
          refine wpX_done (by kernel_rfl) (fun wa hxa => ?_) _
          have hPa := hP9.more hxa
          have hBa := hB9.ext hxa
          clear hxa hP9 hB9
          have hcZ := hSA wa hBa
          go_wp2_with (fail)
          refine (KEY.out (addF f id a) (addR f l id a) wa hPa hBa).1.mono ?_
          rintro e wz ⟨rfl, rfl⟩
          go_wp2_with (fail)
          refine (KEY.out (addF f id a) (addR f l id a) wa hPa hBa).2.mono ?_
          rintro e wz ⟨rfl, rfl⟩
          have HPZ := Lib.hid hPa
          generalize ((addF f id a) id).getD 0 = zn
          generalize ((addF f id a) id).isSome = zb
          have hzz : (zn != zn) = false := by simp
          have hzb : (zb != zb) = false := by simp
          go_wp2_with (fail)
          exact ⟨⟨k + 1, _, _, hlt, rfl, HPZ.out⟩, by simp [intOf]; omega⟩
        · refine wp_region_mix (T := [3, 7, 8, 9]) (S := fun q => Blk q ga #[.int .i64 kd, .int .i64 id, .int .i64 a] 48) (W := W3) (fun _ _ h hx => Blk.ext h hx) (by kernel_rfl) (by kernel_rfl) (Ext.refl W3).drew hB3 (fun _ _ h => h) (fun K hK => ?_)
          (repeat (first | (refine hX_skip ?_ ?_; (· rfl)) | (apply hX_and; (· rfl); (· rfl); (· rfl); (· rfl); (· rfl); simp only [Act.put, List.setIfInBounds_toArray, List.set_cons_zero, List.set_cons_succ]) | (apply hX_or; (· rfl); (· rfl); (· rfl); (· rfl); (· rfl); simp only [Act.put, List.setIfInBounds_toArray, List.set_cons_zero, List.set_cons_succ]) | (apply hX_off; (· rfl); (· rfl); (· rfl); simp only [Act.put, List.setIfInBounds_toArray, List.set_cons_zero, List.set_cons_succ]) | (apply hX_val; (· rfl); (· intro w hS; go_simp; with_reducible rfl); (· rfl); simp only [Act.put, List.setIfInBounds_toArray, List.set_cons_zero, List.set_cons_succ]) | (apply hX_call; (· rfl); (· rfl); (· intro w hS; go_simp; exact ⟨rfl, rfl⟩); (· intro w hS; fail); simp only [Act.put, List.setIfInBounds_toArray, List.set_cons_zero, List.set_cons_succ]) | (apply hX_if; (· rfl); (· rfl); (· rfl); (· intro hif w hS; go_simp; with_reducible rfl); simp only [Act.put, List.setIfInBounds_toArray, List.set_cons_zero, List.set_cons_succ]) | (apply hX_ifcall; (· rfl); (· rfl); (· rfl); (· intro hif w hS; go_simp; exact ⟨rfl, rfl⟩); (· intro hif w hS; fail); simp only [Act.put, List.setIfInBounds_toArray, List.set_cons_zero, List.set_cons_succ]))); refine hX_nil ?_
          refine hK _ ?_
          clear hK K hcW
          refine wpX_want (i := 3) (by kernel_rfl) rfl (by simp [Region.wanted, yielded]) ?_
          intro w4 hx4 K hK
          go_simp
          have hP4 := hP3.more hx4
          have hB4 := hB3.ext hx4
          refine (drop_any tb bm k f id w4 hP4.tm HW1.out).mono ?_
          rintro e w5 ⟨rfl, hT5, hg5⟩
          have hB5 := hB4.grown hg5 (fun e => hP4.tm.2.notBlk hB4 (Option.some.inj e).symm)
          have hR5 := hP4.rt.grownM hP4.tm.2 hg5
          refine hK _ _ hB5 ?_
          clear hK K hx4 hP3 hB3
          refine wpX_want (i := 7) (by kernel_rfl) rfl (by simp [Region.wanted, yielded]) ?_
          intro w6 hx6 K hK
          go_simp
          refine (drop22_any xb _ l f id w6 (hR5.ext hx6) hP4.agr (by have := hP4.len; omega)).mono ?_
          rintro e w7 ⟨rfl, hR7, hc7⟩
          have hP7 := (hP4.step hT5 hg5 hx6 hR7 hc7 (hP4.agr.drop id) (hP4.fb.drop id) (by have := len_drop l id; have := hP4.len; omega)).up (Nat.le_succ k)
          have hB7 := (hB5.ext hx6).chg hc7 ((hB5.ext hx6).notT (by decide))
          refine hK _ _ hB7 ?_
          clear hK K hx6 hR7 hc7 hR5 hB5 hT5 hg5 hP4 hB4
          generalize (f id).isSome = zz
          refine wpX_want (i := 8) (by kernel_rfl) rfl (by simp [Region.wanted, yielded]) ?_
          intro w8 hx8 K hK
          have hP8 := hP7.more hx8
          have hB8 := hB7.ext hx8
          go_simp
          refine hK _ _ hB8 ?_
          clear hK K hx8 hP7 hB7
          refine wpX_want (i := 9) (by kernel_rfl) rfl (by simp [Region.wanted, yielded]) ?_
          intro w9 hx9 K hK
          have hP9 := hP8.more hx9
          have hB9 := hB8.ext hx9
          go_simp
          refine hK _ _ hB9 ?_
          clear hK K hx9 hP8 hB8
          refine wpX_done (by kernel_rfl) (fun wa hxa => ?_) _
          have hPa := hP9.more hxa
          have hBa := hB9.ext hxa
          clear hxa hP9 hB9
          have hcZ := hSA wa hBa
          go_wp2_with (fail)
          refine (KEY.out (upd f id none) (dropL l id) wa hPa hBa).1.mono ?_
          rintro e wz ⟨rfl, rfl⟩
          go_wp2_with (fail)
          refine (KEY.out (upd f id none) (dropL l id) wa hPa hBa).2.mono ?_
          rintro e wz ⟨rfl, rfl⟩
          have HPZ := Lib.hid hPa
          generalize ((upd f id none) id).getD 0 = zn
          generalize ((upd f id none) id).isSome = zb
          have hzz : (zn != zn) = false := by simp
          have hzb : (zb != zb) = false := by simp
          go_wp2_with (fail)
          exact ⟨⟨k + 1, _, _, hlt, rfl, HPZ.out⟩, by simp [intOf]; omega⟩
        · refine (tick_any tb bm k f W3 hP3.tm (by omega) (fun x m h => (hP3.fb x m h).1)).mono ?_
          rintro e w5 ⟨v5, ids5, rfl, hD5, hR5, hT5, hg5⟩
          have hB5 := hB3.grown hg5 (fun e => hP3.tm.2.notBlk hB3 (Option.some.inj e).symm)
          have hQ5 := hP3.rt.grownM hP3.tm.2 hg5
          obtain rfl := due_out hP3.agr hD5.1 hD5.2
          clear hcW
          go_wp2_with (fail)
          refine (tick22_any xb _ l w5 hQ5 hP3.agr.1 (by have := hP3.len; omega) (hP3.fb.list hP3.agr)).mono ?_
          rintro e w7 ⟨v7, rfl, hR7, hQ7, hc7⟩
          have hP7 := (hP3.step hT5 hg5 (Ext.refl w5) hQ7 hc7 (hP3.agr.tick _ (fun x => rfl)) hP3.fb.tick (by have := len_tick l; have := hP3.len; omega)).up (Nat.le_succ k)
          have hB7 := hB5.chg hc7 (hB5.notT (by decide))
          have hI5 := (OwnL.chg hR5 hc7 (OwnL.notT hR5 (by decide)))
          have hi9 := ints2_any v5 v7 (outL l) (outL l) w7 (RowP.ints hI5) (RowP.ints hR7)
          rw [decide_eq_true rfl] at hi9
          have HI := Lib.hid hi9
          obtain ⟨A7, c7, rfl⟩ := OwnL.slice2 hR7
          obtain ⟨A5, c5, rfl⟩ := OwnL.slice2 hR5
          clear hi9 hR5 hR7 hI5 hP3 hT5 hg5 hQ5 hQ7 hc7 hB5 hB3
          go_wp2_with (fail)
          refine HI.out.mono ?_
          rintro e w8 ⟨rfl, hb8⟩
          have hPa := hP7.more ⟨hb8⟩
          have hBa := hB7.ext ⟨hb8⟩
          clear hP7 hB7 hb8
          have hcZ := hSA w8 hBa
          go_wp2_with (fail)
          refine (KEY.out (tickF f) (tickL l) w8 hPa hBa).1.mono ?_
          rintro e wz ⟨rfl, rfl⟩
          go_wp2_with (fail)
          refine (KEY.out (tickF f) (tickL l) w8 hPa hBa).2.mono ?_
          rintro e wz ⟨rfl, rfl⟩
          have HPZ := Lib.hid hPa
          generalize ((tickF f) id).getD 0 = zn
          generalize ((tickF f) id).isSome = zb
          have hzz : (zn != zn) = false := by simp
          have hzb : (zb != zb) = false := by simp
          go_wp2_with (fail)
          exact ⟨⟨k + 1, _, _, hlt, rfl, HPZ.out⟩, by simp [intOf]; omega⟩
      · obtain rfl : k = xs.length := by omega
        go_wp2_with (fail)
        refine (known22_any wr).mono ?_
        rintro e w6 ⟨rfl, hb6⟩
        go_wp2_with (fail)
        go_ret
        exact ⟨rfl, (hP.ext.call hb6).below⟩
end Go.Proofs.Ytenamokjbbiecaa
