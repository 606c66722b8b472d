/- Of events: who was pending, who ran (ref27.Of). -/
import Derived.Test.YtniejidekflmiaaDoorProg
import Derived.Test.YtniejidekflmiaaDoorBase
import Derived.Test.YtniejidekflmiaaDoorHeldX
import Derived.Test.YtniejidekflmiaaDoorHeldN
import Derived.Test.YtniejidekflmiaaDoorApp
import Derived.Test.YtniejidekflmiaaDoorExt0
import Derived.Test.YtniejidekflmiaaDoorChg
import Derived.Test.YtniejidekflmiaaDoorRowB
import Derived.Test.YtniejidekflmiaaDoorKM
import Derived.Test.YtniejidekflmiaaDoorKP1
import Derived.Test.YtniejidekflmiaaDoorKO
import Derived.Test.YtniejidekflmiaaDoorOpenI
import Derived.Test.YtniejidekflmiaaDoorKker
import Derived.Test.YtniejidekflmiaaDoorBit
import Derived.Test.YtniejidekflmiaaDoorKcac
import Derived.Test.YtniejidekflmiaaDoorEvO
import Derived.Deep.Cut
import Derived.Lib.Hide
import Derived.OwnWalk
import Derived.Maps.AppendAt
import Derived.BigQuiet
namespace Go.Proofs.YtniejidekflmiaaDoor
open Go.RowKit
attribute [local go_sem] setCell_twice ByteArray.toList_eq str_list Ext.alloc Ext.drew
set_option linter.unusedSimpArgs false
set_option linter.unusedVariables false
set_option maxRecDepth 100000
set_option maxHeartbeats 1600000
attribute [local irreducible] Calls

/-- an array of eight truths -/
structure ArrB (w : World) (g : Nat) (xs : List Bool) : Prop where
  box : Blk w g (xs.map Value.bool).toArray 65
  len : xs.length = 8
section
variable {w w' : World} {g : Nat} {xs : List Bool}
theorem ArrB.ext (h : ArrB w g xs) (hx : Ext w w') : ArrB w' g xs := ⟨h.box.ext hx, h.len⟩
theorem ArrB.at (h : ArrB w g xs) {i : Nat} (hi : i < 8) : w.cell? ⟨g, i, none⟩ = some (.bool (xs.getD i false)) := by
  have hi2 : i < xs.length := by rw [h.len]; exact hi
  rw [h.box.cell, List.getElem?_toArray, List.getElem?_map, List.getElem?_eq_getElem hi2, getD_at hi2]
  rfl
theorem ArrB.set (h : ArrB w g xs) (i : Nat) (x : Bool) : ArrB (w.setCell ⟨g, i, none⟩ (.bool x)) g (xs.set i x) := by
  have := h.box.set i (.bool x)
  refine ⟨?_, by rw [List.length_set]; exact h.len⟩
  rw [List.map_set]
  simpa using this
end
def risK (xs : List Bool) (k : Nat) : List Int := ((List.range k).filter fun i => xs.getD i false).map Int.ofNat
theorem risK_step (xs : List Bool) (k : Nat) : risK xs (k + 1) = if xs.getD k false = true then risK xs k ++ [(k : Int)] else risK xs k := by
  unfold risK
  rw [List.range_succ, List.filter_append, List.map_append]
  cases h : xs.getD k false with
  | true =>
    rw [if_pos rfl, List.filter_cons_of_pos (p := fun i => xs.getD i false) h]
    rfl
  | false =>
    rw [if_neg (by decide), List.filter_cons_of_neg (p := fun i => xs.getD i false) (by rw [h]; decide)]
    show _ ++ [] = _
    rw [List.append_nil]
theorem risK_len (xs : List Bool) (k : Nat) : (risK xs k).length ≤ k := by
  unfold risK
  rw [List.length_map]
  refine Nat.le_trans (List.length_filter_le _ _) ?_
  rw [List.length_range]
  exact Nat.le_refl _
theorem rising_any (a0 a1 a2 a3 a4 a5 a6 a7 : Bool) (w : World) :
    Calls Tryd.prog 28 #[.agg #[.bool a0, .bool a1, .bool a2, .bool a3, .bool a4, .bool a5, .bool a6, .bool a7]] w fun e w' => ∃ v, e = .returned v ∧ OwnL encN w' w.heap.size 3 1 v (risingL [a0, a1, a2, a3, a4, a5, a6, a7]) ∧ Ext w w' := by
  have hB : ArrB (w.alloc (.cells #[.bool a0, .bool a1, .bool a2, .bool a3, .bool a4, .bool a5, .bool a6, .bool a7] 65)) w.heap.size [a0, a1, a2, a3, a4, a5, a6, a7] := ⟨Blk.new _ _ _, rfl⟩
  have hX := (Ext.refl w).alloc (.cells #[.bool a0, .bool a1, .bool a2, .bool a3, .bool a4, .bool a5, .bool a6, .bool a7] 65)
  have hrs : risingL [a0, a1, a2, a3, a4, a5, a6, a7] = risK [a0, a1, a2, a3, a4, a5, a6, a7] 8 := rfl
  obtain ⟨rs8, hr8⟩ : ∃ r, risingL [a0, a1, a2, a3, a4, a5, a6, a7] = r := ⟨_, rfl⟩
  rw [hr8]
  rw [hr8] at hrs
  have HRS := Lib.hid hrs
  clear hrs hr8
  go_enter Tryd.func28, Tryd.ntmps28
  go_wp2_with (fail)
  generalize w.alloc _ = W1 at hB hX ⊢
  generalize [a0, a1, a2, a3, a4, a5, a6, a7] = xs at hB HRS
  go_loopw [3, 4] (fun v i wr => ∃ (k : Nat) (vo : Value), k ≤ 8 ∧ i = .int .i64 k ∧ vo = v ∧ OwnL encN wr w.heap.size 3 1 vo (risK xs k) ∧ ArrB wr w.heap.size xs ∧ Ext w wr) (fun _ i _ => 8 - (intOf i).toNat)
  case atStart => exact ⟨0, _, by omega, rfl, rfl, OwnL.nil, hB, hX⟩
  case round =>
    obtain ⟨k, vo, hk, rfl, rfl, hO, hA, hX2⟩ := hrel
    clear hB hX
    by_cases hlt : k < 8
    · have hck := hA.at hlt
      have hst := risK_step xs k
      have hl := risK_len xs k
      obtain ⟨Av, cv, e, _, _⟩ := OwnL.form hO
      subst e
      generalize risK xs k = rs at *
      generalize xs.getD k false = b at *
      have HS := Lib.hid hst
      have HO := Lib.hid hO
      have HA := Lib.hid hA
      clear hst hO hA
      cases b with
      | false =>
        have HN := Lib.hid (show risK xs (k + 1) = rs by rw [HS.out, if_neg (by simp)])
        go_wp2_with (fail)
        exact ⟨⟨k + 1, _, hlt, rfl, rfl, by rw [HN.out]; exact HO.out, HA.out, hX2⟩, by simp [intOf]; omega⟩
      | true =>
        have HN := Lib.hid (show risK xs (k + 1) = rs ++ [(k : Int)] by rw [HS.out, if_pos rfl])
        go_wp2_with (at_builtin; (refine wpList_push rfl _ _ 34 rfl w.heap.size 3 Tryd.underlying34 infoInt rfl (by decide) (by decide) encN rs _ rfl (OwnL.alloc HO.out _) (k : Int) wr.heap.size #[.int .i64 k] 3 rfl (Blk.new _ _ _) rfl rfl (encN_one _) ?_ ?_ ?_; (· omega); (· have := hX2.size; simp; omega); (intro v4 w4 hown hg hloc _)))
        have hA4 : ArrB w4 w.heap.size xs := ⟨((HA.out.ext ((Ext.refl wr).alloc (.cells #[.int .i64 k] 3))).box).grown hg (own_ne_blk HO.out HA.out.box (by decide)), HA.out.len⟩
        exact ⟨⟨k + 1, _, hlt, rfl, rfl, by rw [HN.out]; exact hown, hA4, (hX2.alloc _).grown hg (fun q hq => (OwnL.lt HO.out q hq).1)⟩, by simp [intOf]; omega⟩
    · have hke : k = 8 := by omega
      subst hke
      go_wp2_with (fail)
      refine bodyPost_ret (v := vo) (by simp [results, Tryd.results28, go_sem, *]) rfl ⟨vo, rfl, by rw [HRS.out]; exact hO, hX2⟩
theorem infoRow : (Tryd.prog.info? 34).map (fun i => (i.zero, i.size, i.bytes)) = some (some (.slice none 0 0), 1, 24) := by kernel_rfl
def encRow (p : List Int × Value) : List Value := [p.2]
/-- what Of holds -/
structure OfM (w0 wr : World) (ran : List Int) (pe : List (List Int)) (vr vp : Value) (ps : List (List Int × Value)) : Prop where
  ext : Ext w0 wr
  res : Blk wr w0.heap.size #[.slice none 0 0, .slice none 0 0] 37
  box : Blk wr (w0.heap.size + 1) #[vr, vp] 37
  ran : OwnL encN wr w0.heap.size 3 1 vr ran
  pend : OwnL encRow wr w0.heap.size 34 1 vp ps
  rows : ∀ p ∈ ps, OwnL encN wr w0.heap.size 3 1 p.2 p.1
  eq : ps.map (·.1) = pe
  apart : ∀ p ∈ ps, ∀ q, vr.ownBlock = some q → p.2.ownBlock ≠ some q
section
variable {w0 w w' w2 : World} {ran : List Int} {pe : List (List Int)} {vr vp : Value} {ps : List (List Int × Value)}
theorem OfM.ext' (h : OfM w0 w ran pe vr vp ps) (hx : Ext w w') : OfM w0 w' ran pe vr vp ps :=
  ⟨h.ext.trans hx, h.res.ext hx, h.box.ext hx, OwnL.below h.ran hx.below, OwnL.below h.pend hx.below, fun p hp => OwnL.below (h.rows p hp) hx.below, h.eq, h.apart⟩
/-- a truth is stored -/
theorem OfM.flag (h : OfM w0 w ran pe vr vp ps) {xs : List Bool} (hA : ArrB w (w0.heap.size + 1 + 1) xs) (i : Nat) (b : Bool) : OfM w0 (w.setCell ⟨w0.heap.size + 1 + 1, i, none⟩ (.bool b)) ran pe vr vp ps := by
  have n1 : (w0.heap.size + 1) ≠ w0.heap.size + 1 + 1 := by omega
  have n0 : w0.heap.size ≠ w0.heap.size + 1 + 1 := by omega
  exact ⟨h.ext.set (by omega) _, h.res.far (p := ⟨w0.heap.size + 1 + 1, i, none⟩) n0 _, h.box.far (p := ⟨w0.heap.size + 1 + 1, i, none⟩) n1 _, OwnL.set h.ran (a := ⟨w0.heap.size + 1 + 1, i, none⟩) (own_ne_blk h.ran hA.box (by decide)) _, OwnL.set h.pend (a := ⟨w0.heap.size + 1 + 1, i, none⟩) (own_ne_blk h.pend hA.box (by decide)) _, fun p hp => OwnL.set (h.rows p hp) (a := ⟨w0.heap.size + 1 + 1, i, none⟩) (own_ne_blk (h.rows p hp) hA.box (by decide)) _, h.eq, h.apart⟩
/-- who ran: one more -/
theorem OfM.more (h : OfM w0 w ran pe vr vp ps) {v2 : Value} {x : Int} (hg : w.grownBy w2 vr.ownBlock) (ho : OwnL encN w2 w0.heap.size 3 1 v2 (ran ++ [x])) (hloc : v2.ownBlock = vr.ownBlock ∨ v2.ownBlock = some w.heap.size) : OfM w0 (w2.setCell ⟨w0.heap.size + 1, 0, none⟩ v2) (ran ++ [x]) pe v2 vp ps := by
  have n0 : w0.heap.size ≠ w0.heap.size + 1 := by omega
  have hb := h.box.grown hg (own_ne_blk h.ran h.box (by decide))
  have hp2 : OwnL encRow w2 w0.heap.size 34 1 vp ps := OwnL.grown h.pend hg (fun k hk e => own_types h.pend h.ran (by decide) k hk e)
  have hr2 : ∀ p ∈ ps, OwnL encN w2 w0.heap.size 3 1 p.2 p.1 := fun p hp => OwnL.grown (h.rows p hp) hg (fun k hk e => h.apart p hp k e hk)
  have hb2 := hb.set 0 v2
  simp only [List.setIfInBounds_toArray, List.set_cons_zero] at hb2
  refine ⟨(h.ext.grown hg (fun k hk => (OwnL.lt h.ran k hk).1)).set (by omega) _, (h.res.grown hg (own_ne_blk h.ran h.res (by decide))).far (p := ⟨w0.heap.size + 1, 0, none⟩) n0 _, hb2, OwnL.set ho (a := ⟨w0.heap.size + 1, 0, none⟩) (own_ne_blk ho hb (by decide)) _, OwnL.set hp2 (a := ⟨w0.heap.size + 1, 0, none⟩) (own_ne_blk hp2 hb (by decide)) _, fun p hp => OwnL.set (hr2 p hp) (a := ⟨w0.heap.size + 1, 0, none⟩) (own_ne_blk (hr2 p hp) hb (by decide)) _, h.eq, fun p hp q hq e => ?_⟩
  rcases hloc with h1 | h1
  · exact h.apart p hp q (h1.symm.trans hq) e
  · rw [h1] at hq
    have h2 := Option.some.inj hq
    have h3 := (OwnL.lt (h.rows p hp) q e).2
    omega
/-- who was pending: one row more -/
theorem OfM.row (h : OfM w0 w ran pe vr vp ps) {v v2 : Value} {xs : List Int} (hr : OwnL encN w w0.heap.size 3 1 v xs) (hne : ∀ q, vr.ownBlock = some q → v.ownBlock ≠ some q) (hg : w.grownBy w2 vp.ownBlock) (ho : OwnL encRow w2 w0.heap.size 34 1 v2 (ps ++ [(xs, v)])) :
    OfM w0 (w2.setCell ⟨w0.heap.size + 1, 1, none⟩ v2) ran (pe ++ [xs]) vr v2 (ps ++ [(xs, v)]) := by
  have n0 : w0.heap.size ≠ w0.heap.size + 1 := by omega
  have hb := h.box.grown hg (own_ne_blk h.pend h.box (by decide))
  have hran : OwnL encN w2 w0.heap.size 3 1 vr ran := OwnL.grown h.ran hg (fun k hk e => own_types h.ran h.pend (by decide) k hk e)
  have hr2 : ∀ p ∈ ps ++ [(xs, v)], OwnL encN w2 w0.heap.size 3 1 p.2 p.1 := fun p hp => by
    rcases List.mem_append.1 hp with hp | hp
    · exact OwnL.grown (h.rows p hp) hg (fun k hk e => own_types (h.rows p hp) h.pend (by decide) k hk e)
    · obtain rfl := List.mem_singleton.1 hp
      exact OwnL.grown hr hg (fun k hk e => own_types hr h.pend (by decide) k hk e)
  have hb2 := hb.set 1 v2
  simp only [List.setIfInBounds_toArray, List.set_cons_zero, List.set_cons_succ] at hb2
  refine ⟨(h.ext.grown hg (fun k hk => (OwnL.lt h.pend k hk).1)).set (by omega) _, (h.res.grown hg (own_ne_blk h.pend h.res (by decide))).far (p := ⟨w0.heap.size + 1, 1, none⟩) n0 _, hb2, OwnL.set hran (a := ⟨w0.heap.size + 1, 1, none⟩) (own_ne_blk hran hb (by decide)) _, OwnL.set ho (a := ⟨w0.heap.size + 1, 1, none⟩) (own_ne_blk ho hb (by decide)) _, fun p hp => OwnL.set (hr2 p hp) (a := ⟨w0.heap.size + 1, 1, none⟩) (own_ne_blk (hr2 p hp) hb (by decide)) _, by rw [List.map_append, h.eq]; rfl, fun p hp q hq => ?_⟩
  rcases List.mem_append.1 hp with hp | hp
  · exact h.apart p hp q hq
  · obtain rfl := List.mem_singleton.1 hp
    exact hne q hq
end
theorem ofT_fin (L : List Ev) (m : Nat) : (ofT L m).o.fin = false := by
  cases m with
  | zero => rfl
  | succ m =>
    rw [ofT_succ]
    unfold OfTk.tick OfS.next
    dsimp only
    split <;> rfl
theorem ofT_len (L : List Ev) (m : Nat) : (ofT L m).ran.length = m ∧ (ofT L m).pend.length = m := by
  induction m with
  | zero => exact ⟨rfl, rfl⟩
  | succ m ih =>
    rw [ofT_succ]
    unfold OfTk.tick
    dsimp only
    rw [List.length_append, List.length_append, ih.1, ih.2]
    exact ⟨rfl, rfl⟩
theorem takeWhile_take' {α : Type} {p : α → Bool} : ∀ (l : List α) (m : Nat), m ≤ l.length → (∀ x ∈ l.take m, p x = true) → (∀ h : m < l.length, p l[m] = false) → l.takeWhile p = l.take m
  | [], m, _, _, _ => by simp
  | x :: l, 0, _, _, h => by
    have := h (by simp)
    simp only [List.getElem_cons_zero] at this
    rw [List.takeWhile_cons_of_neg (by simp [this]), List.take_zero]
  | x :: l, m + 1, hm, h1, h2 => by
    rw [List.take_succ_cons, List.takeWhile_cons_of_pos (h1 x (by simp)), takeWhile_take' l m (by simpa using hm) (fun y hy => h1 y (by simp [hy])) (fun h => by have := h2 (by simpa using h); simpa using this)]
theorem OfS.ev_off {o : OfS} {e : Ev} (h : e.isTask = false) : o.ev e = o := by
  unfold OfS.ev
  rw [if_pos h]
theorem OfS.ev_none {o : OfS} {e : Ev} (h1 : e.kind ≠ 1) (h4 : e.kind ≠ 4) (h5 : e.kind ≠ 5) (h6 : e.kind ≠ 6) (h8 : e.kind ≠ 8) (h9 : e.kind ≠ 9) : o.ev e = o := by
  unfold OfS.ev
  split
  · rfl
  · repeat (first | rw [if_neg h1] | rw [if_neg h5] | rw [if_neg (show ¬ (e.kind = 4 ∨ e.kind = 6) by omega)] | rw [if_neg (show ¬ (e.kind = 8 ∨ e.kind = 9) by omega)])
/-- within a tick: c events behind the first i0 -/
structure OfIn (L : List Ev) (t : Int) (i0 c : Nat) (o0 o : OfS) : Prop where
  le : i0 + c ≤ L.length
  all : ∀ e ∈ (L.drop i0).take c, decide (e.tick = t) = true
  fold : ((L.drop i0).take c).foldl OfS.ev o0 = o
  at' : o.fin = true → 0 ≤ o.at' ∧ o.at' < 8
  len : o.there.length = 8
theorem OfIn.next {L : List Ev} {t : Int} {i0 c : Nat} {o0 o : OfS} (h : OfIn L t i0 c o0 o) (hj : i0 + c < L.length) (ht : (evAt L (i0 + c)).tick = t) : OfIn L t i0 (c + 1) o0 (o.ev (evAt L (i0 + c))) := by
  have hlen : c < (L.drop i0).length := by rw [List.length_drop]; omega
  have hget : (L.drop i0)[c] = evAt L (i0 + c) := by rw [List.getElem_drop, evAt_in hj]
  have hnx : (L.drop i0).take (c + 1) = (L.drop i0).take c ++ [evAt L (i0 + c)] := by rw [List.take_succ_eq_append_getElem hlen, hget]
  refine ⟨by omega, fun e he => ?_, ?_, ?_, ?_⟩
  · rw [hnx] at he
    rcases mem_snoc he with he | rfl
    · exact h.all e he
    · exact decide_eq_true ht
  · rw [hnx, List.foldl_append, h.fold]
    rfl
  · generalize evAt L (i0 + c) = e
    cases hk : e.isTask with
    | false => rw [OfS.ev_off hk]; exact h.at'
    | true =>
      have hk2 := hk
      unfold Ev.isTask at hk2
      simp only [Bool.and_eq_true, decide_eq_true_eq] at hk2
      unfold OfS.ev
      rw [if_neg (by simp [hk])]
      split
      · exact h.at'
      · split
        · exact h.at'
        · split
          · exact h.at'
          · split
            · intro _; exact hk2
            · exact h.at'
  · generalize evAt L (i0 + c) = e
    unfold OfS.ev
    split
    · exact h.len
    · split
      · show (o.there.set _ _).length = 8
        rw [List.length_set]; exact h.len
      · split
        · exact h.len
        · split
          · exact h.len
          · split
            · exact h.len
            · exact h.len
theorem OfIn.stop {L : List Ev} {t : Int} {i0 c : Nat} {o0 o : OfS} (h : OfIn L t i0 c o0 o) (hs : i0 + c < L.length → (evAt L (i0 + c)).tick ≠ t) : ((L.drop i0).takeWhile fun e => decide (e.tick = t)) = (L.drop i0).take c := by
  have hl := h.le
  refine takeWhile_take' _ _ (by rw [List.length_drop]; omega) h.all (fun hc => ?_)
  rw [List.length_drop] at hc
  have hj : i0 + c < L.length := by omega
  rw [List.getElem_drop, ← evAt_in hj]
  exact decide_eq_false (hs hj)
/-- the tick is over -/
theorem OfIn.tick {L : List Ev} {m i0 c : Nat} {x : OfTk} {o : OfS} (h : OfIn L m i0 c x.o o) (hr : x.rest = L.drop i0) (hs : i0 + c < L.length → (evAt L (i0 + c)).tick ≠ (m : Int)) : x.tick m = ⟨L.drop (i0 + c), o.next, x.ran ++ [o.now], x.pend ++ [risingL o.there]⟩ := by
  have hev : x.evs m = (L.drop i0).take c := by
    unfold OfTk.evs
    rw [hr]
    exact h.stop hs
  have hl : (x.evs m).length = c := by
    rw [hev, List.length_take, List.length_drop]
    have := h.le
    omega
  unfold OfTk.tick
  rw [hl, hev, h.fold, hr, List.drop_drop]
theorem ofT_at' (L : List Ev) (m : Nat) : (ofT L m).o.at' = 0 := by
  cases m with
  | zero => rfl
  | succ m =>
    rw [ofT_succ]
    unfold OfTk.tick OfS.next
    dsimp only
    split <;> rfl
theorem list8 {α : Type} : ∀ {l : List α}, l.length = 8 → ∃ a0 a1 a2 a3 a4 a5 a6 a7, l = [a0, a1, a2, a3, a4, a5, a6, a7]
  | [a0, a1, a2, a3, a4, a5, a6, a7], _ => ⟨a0, a1, a2, a3, a4, a5, a6, a7, rfl⟩
/-- the walk's block and the array -/
def WBox (g : Nat) (cs ct : Array Value) (w : World) : Prop := Blk w (g + 1) cs 37 ∧ Blk w (g + 1 + 1) ct 65
theorem WBox.ext {g : Nat} {cs ct : Array Value} {w w' : World} (h : WBox g cs ct w) (hx : Ext w w') : WBox g cs ct w' := ⟨h.1.ext hx, h.2.ext hx⟩
theorem grown_ext' {w w1 w2 : World} {row : Option Nat} (h : w.grownBy w1 row) (hx : Ext w1 w2) : w.grownBy w2 row :=
  ⟨hx.below.os.trans h.os, hx.below.tape.trans h.tape, hx.below.output.trans h.output, Nat.le_trans h.size hx.below.size, fun k hk hn => (hx.below.block k (Nat.lt_of_lt_of_le hk h.size)).trans (h.block k hk hn)⟩
theorem encRow_one (p : List Int × Value) (h : p.2.oneCell' = true) : ∀ u ∈ encRow p, u.oneCell' = true := by
  intro u hu
  simp only [encRow, List.mem_cons, List.not_mem_nil, or_false] at hu
  subst hu
  exact h
theorem dems_own {w : World} {base : Nat} {vp : Value} {ps : List (List Int × Value)} (h : OwnL encRow w base 34 1 vp ps) (hr : ∀ p ∈ ps, OwnL encN w base 3 1 p.2 p.1) : SlR DemR 1 Any w vp (ps.map (·.1)) := by
  have := h.read (R := fun w b o p => DemR w b o p.1) (F := Any) (fun _ => rfl) (fun _ _ _ => trivial) (fun b o p hp hx => ⟨p.2, hx 0 _ rfl, OwnL.ints (hr p hp)⟩)
  obtain ⟨A, c, e, h1, h2, h3⟩ := this
  refine ⟨A, c, by rw [List.length_map]; exact e, by rw [List.length_map]; exact h1, h2, fun hne => ?_⟩
  obtain ⟨b, o, e, _, hx⟩ := h3 (fun e => hne (by rw [e]; rfl))
  exact ⟨b, o, e, trivial, fun i hi => by
    rw [List.length_map] at hi
    have := hx i hi
    rw [List.getElem_map]
    exact this⟩
theorem of_any (va : Value) (L : List Ev) (n : Nat) (w : World) (hn : n ≤ 1000) (ha : Evs w va L) :
    Calls Tryd.prog 17 #[va, .int .i64 n] w fun e w' => ∃ vr vp, e = .returned (.agg #[vr, vp]) ∧ Ints w' vr (ofT L n).ran ∧ SlR DemR 1 Any w' vp (ofT L n).pend ∧ Ext w w' := by
  obtain ⟨A, c, rfl, hc1, hc2⟩ := ha.form
  unfold maxLen at hc2
  have HA := Lib.hid ha
  clear ha
  go_enter Tryd.func17, Tryd.ntmps17
  go_wp2_with (fail)
  generalize hW : World.alloc _ (.cells _ 65) = W
  have hM0 : OfM w W [] [] (.slice none 0 0) (.slice none 0 0) [] := by
    refine ⟨by rw [← hW]; exact (((Ext.refl w).alloc _).alloc _).alloc _, by rw [← hW]; exact ((Blk.new _ _ _).alloc _).alloc _, by rw [← hW]; exact (Blk.new_at _ _ _ _ (by simp)).alloc _, OwnL.nil, OwnL.nil, (fun p hp => by cases hp), rfl, (fun p hp => by cases hp)⟩
  have hA0 : ArrB W (w.heap.size + 1 + 1) OfS.init.there := ⟨by rw [← hW]; exact Blk.new_at _ _ _ _ (by simp), rfl⟩
  have HM0 := Lib.hid hM0
  have HA0 := Lib.hid hA0
  clear hW hM0 hA0
  go_loopw [7, 8, 9] (fun now i t wr => ∃ (m i0 : Nat) (vr vp : Value) (ps : List (List Int × Value)), m ≤ n ∧ t = .int .i64 m ∧ i = .int .i64 i0 ∧ now = .int .i64 (ofT L m).o.now ∧ Hid ((ofT L m).rest = L.drop i0) ∧ i0 ≤ L.length ∧ OfM w wr (ofT L m).ran (ofT L m).pend vr vp ps ∧ ArrB wr (w.heap.size + 1 + 1) (ofT L m).o.there) (fun _ _ t _ => n - (intOf t).toNat)
  case atStart => exact ⟨0, 0, _, _, _, Nat.zero_le _, rfl, rfl, rfl, Lib.hid rfl, Nat.zero_le _, HM0.out, HA0.out⟩
  case round =>
    obtain ⟨m, i0, vr, vp, ps, hm, rfl, rfl, rfl, hrest, hi0, hM, hA⟩ := hrel
    clear HM0 HA0
    by_cases hlt : m < n
    · have hsucc := Lib.hid (ofT_succ L m)
      have hfin := ofT_fin L m
      have hat0 := ofT_at' L m
      have hlen := ofT_len L m
      generalize ofT L m = x at *
      have HM := Lib.hid hM
      have HAr := Lib.hid hA
      have hin : OfIn L m i0 0 x.o x.o := ⟨by omega, by simp, by simp, (fun h => by rw [hfin] at h; cases h), hA.len⟩
      have HIN := Lib.hid hin
      have HLEN := Lib.hid hlen
      have HXX := Lib.hid hfin
      have HX0 := Lib.hid hat0
      clear hM hA hin hlen hfin hat0
      go_wp2_with (fail)
      go_loopw [7, 8, 10, 11] (fun now i fin a wr => ∃ (j c : Nat) (o : OfS), Hid (j = i0 + c) ∧ now = .int .i64 o.now ∧ i = .int .i64 j ∧ fin = .bool o.fin ∧ a = .int .i64 o.at' ∧ OfIn L m i0 c x.o o ∧ OfM w wr x.ran x.pend vr vp ps ∧ ArrB wr (w.heap.size + 1 + 1) o.there) (fun _ i _ _ _ => L.length - (intOf i).toNat)
      case atStart => exact ⟨i0, 0, x.o, Lib.hid rfl, rfl, rfl, by rw [HXX.out], by rw [HX0.out], HIN.out, HM.out, HAr.out⟩
      case round =>
        obtain ⟨j, c1, o, hji, rfl, rfl, rfl, rfl, hin, hM1, hA1⟩ := hrel
        have HM1 := Lib.hid hM1
        have HAA := Lib.hid hA1
        have hjL' : j ≤ L.length := by rw [hji.out]; exact hin.le
        clear HIN HM HAr
        by_cases hj : j < L.length
        · obtain ⟨bl, ol, rfl, hx⟩ := HA.out.at hj
          have hEw := hM1.ext
          clear hM1
          have hnext := fun ht => hin.next (by rw [← hji.out]; exact hj) (by rw [← hji.out]; exact ht)
          rw [← hji.out] at hnext
          have hstop : ∀ ht : (evAt L j).tick ≠ (m : Int), i0 + c1 < L.length → (evAt L (i0 + c1)).tick ≠ (m : Int) := fun ht _ => by rw [← hji.out]; exact ht
          have x0 := fun w' (h : Ext w w') => (hx w' h).1
          have x1 := fun w' (h : Ext w w') => (hx w' h).2.1
          have x2 := fun w' (h : Ext w w') => (hx w' h).2.2.1
          have x3 := fun w' (h : Ext w w') => (hx w' h).2.2.2
          clear hx
          generalize evAt L j = p at *
          obtain ⟨p0, p1, p2, p3⟩ := p
          dsimp only at x0 x1 x2 x3 hnext hstop
          have y0 := x0 wr hEw
          have y1 := x1 wr hEw
          have y2 := x2 wr hEw
          have y3 := x3 wr hEw
          cases dt : (p0 == (m : Int)) with
          | false =>
            have HSTOP := Lib.hid (hstop (by simpa using dt))
            have hat8 := True.intro
            clear hat8 x0 x1 x2 x3 y1 y2 y3 hA1 hnext hstop
            have htick := hin.tick (x := x) hrest.out HSTOP.out
            have hE : ofT L (m + 1) = ⟨L.drop j, o.next, x.ran ++ [o.now], x.pend ++ [risingL o.there]⟩ := by rw [hsucc.out, htick, hji.out]
            have HE := Lib.hid hE
            have hat8 := hin.at'
            have hlen8 := hin.len
            have hjL := hin.le
            have hM := HM1.out
            obtain ⟨Ar, cr, hvr, _, _⟩ := OwnL.form hM.ran
            obtain ⟨Ap, cp, hvp, _, _⟩ := OwnL.form hM.pend
            subst hvr hvp
            have HLX := Lib.hid HLEN.out.1
            have HLP := Lib.hid (show ps.length = m by rw [← HLEN.out.2, ← hM.eq, List.length_map])
            have hbc := hM.box.cell
            have hbf := hM.box.free
            have hsz := hM.ext.size
            have HM2 := Lib.hid hM
            clear htick hE hM
            go_upto_region 26 with (at_builtin; (refine wpList_push rfl _ _ 34 rfl w.heap.size 3 Tryd.underlying34 infoInt rfl (by decide) (by decide) encN x.ran _ rfl (OwnL.alloc HM2.out.ran _) o.now wr.heap.size #[.int .i64 o.now] 3 rfl (Blk.new _ _ _) rfl rfl (encN_one _) ?_ ?_ ?_; (· have := HLX.out; omega); (· simp; omega); (intro v4 w4 hown4 hg4 hloc4 _; have hb4 := ((HM2.out.box.alloc (.cells #[.int .i64 o.now] 3)).grown hg4 (own_ne_blk HM2.out.ran HM2.out.box (by decide))); have hb4c := hb4.cell; have hb4f := hb4.free; clear hbc; obtain ⟨A4, c4, rfl⟩ := own_slice hown4)))
            have hM5 := (HM2.out.ext' ((Ext.refl wr).alloc (.cells #[.int .i64 o.now] 3))).more hg4 hown4 hloc4
            have hA5 : ArrB (w4.setCell ⟨w.heap.size + 1, 0, none⟩ (.slice A4 (x.ran ++ [o.now]).length c4)) (w.heap.size + 1 + 1) o.there := ⟨(((HAA.out.box.alloc (.cells #[.int .i64 o.now] 3)).grown hg4 (own_ne_blk HM2.out.ran HAA.out.box (by decide))).far (p := ⟨w.heap.size + 1, 0, none⟩) (by show w.heap.size + 1 + 1 ≠ w.heap.size + 1; omega) _), HAA.out.len⟩
            rw [List.length_append, List.length_singleton] at hM5 hA5
            clear hb4 hb4c hb4f hbf hown4 hg4 hloc4
            generalize World.setCell _ _ _ = W5 at hM5 hA5 ⊢
            obtain ⟨a0, a1, a2, a3, a4, a5, a6, a7, hth⟩ := list8 hlen8
            rw [hth] at hA5
            have hS5 : WBox w.heap.size #[.slice A4 (x.ran.length + 1) c4, .slice Ap ps.length cp] #[.bool a0, .bool a1, .bool a2, .bool a3, .bool a4, .bool a5, .bool a6, .bool a7] W5 := ⟨hM5.box, hA5.box⟩
            have hk5 : ∀ w', WBox w.heap.size #[.slice A4 (x.ran.length + 1) c4, .slice Ap ps.length cp] #[.bool a0, .bool a1, .bool a2, .bool a3, .bool a4, .bool a5, .bool a6, .bool a7] w' → ∀ j, w'.cell? ⟨w.heap.size + 1, j, none⟩ = #[.slice A4 (x.ran.length + 1) c4, .slice Ap ps.length cp][j]? := fun w' h => Blk.cell h.1
            have ht5 : ∀ w', WBox w.heap.size #[.slice A4 (x.ran.length + 1) c4, .slice Ap ps.length cp] #[.bool a0, .bool a1, .bool a2, .bool a3, .bool a4, .bool a5, .bool a6, .bool a7] w' → ∀ j, w'.cell? ⟨w.heap.size + 1 + 1, j, none⟩ = #[.bool a0, .bool a1, .bool a2, .bool a3, .bool a4, .bool a5, .bool a6, .bool a7][j]? := fun w' h => Blk.cell h.2
            have HM5 := Lib.hid hM5
            have HA5 := Lib.hid hA5
            have HTH := Lib.hid hth
            clear hM5 hA5 hth HM2
            refine wp_region_mixZ (T := [3, 4, 5, 7]) (z := 7) (S := WBox w.heap.size #[.slice A4 (x.ran.length + 1) c4, .slice Ap ps.length cp] #[.bool a0, .bool a1, .bool a2, .bool a3, .bool a4, .bool a5, .bool a6, .bool a7]) (W := W5) (fun _ _ h hx => h.ext hx) (by kernel_rfl) (by kernel_rfl) (by kernel_rfl) (Ext.refl W5).drew hS5 (fun _ _ h => h) (fun K hK => ?_)
            (repeat (first | (refine hX_skip ?_ ?_; (· rfl)) | (apply hX_and; (· rfl); (· rfl); (· rfl); (· rfl); (· rfl); simp only [Act.put, List.setIfInBounds_toArray, List.set_cons_zero, List.set_cons_succ]) | (apply hX_or; (· rfl); (· rfl); (· rfl); (· rfl); (· rfl); simp only [Act.put, List.setIfInBounds_toArray, List.set_cons_zero, List.set_cons_succ]) | (apply hX_off; (· rfl); (· rfl); (· rfl); simp only [Act.put, List.setIfInBounds_toArray, List.set_cons_zero, List.set_cons_succ]) | (apply hX_val; (· rfl); (· intro w hS; go_simp; with_reducible rfl); (· rfl); simp only [Act.put, List.setIfInBounds_toArray, List.set_cons_zero, List.set_cons_succ]) | (apply hX_call; (· rfl); (· rfl); (· intro w hS; go_simp; exact ⟨rfl, rfl⟩); (· intro w hS; fail); simp only [Act.put, List.setIfInBounds_toArray, List.set_cons_zero, List.set_cons_succ]) | (apply hX_if; (· rfl); (· rfl); (· rfl); (· intro hif w hS; go_simp; with_reducible rfl); simp only [Act.put, List.setIfInBounds_toArray, List.set_cons_zero, List.set_cons_succ]) | (apply hX_ifcall; (· rfl); (· rfl); (· rfl); (· intro hif w hS; go_simp; exact ⟨rfl, rfl⟩); (· intro hif w hS; fail); simp only [Act.put, List.setIfInBounds_toArray, List.set_cons_zero, List.set_cons_succ]))); refine hX_nil ?_
            refine hK _ ?_
            clear hK K
            refine wpZ_want (i := 3) (by kernel_rfl) rfl (by simp [Region.wanted, yielded]) ?_
            intro w6 hx6 K hK
            go_simp
            refine (rising_any a0 a1 a2 a3 a4 a5 a6 a7 w6).mono ?_
            rintro e w7 ⟨v7, rfl, hR7, hX67⟩
            have hX7 := hx6.trans hX67
            refine hK _ _ (hS5.ext hX7) ?_
            clear hK K
            obtain ⟨A7, c7, rfl, _, _⟩ := OwnL.form hR7
            have hW56 := hx6.size
            refine wpZ_want (i := 4) (by kernel_rfl) rfl (by simp [Region.wanted, yielded]) ?_
            intro w8 hx8 K hK
            go_simp
            have hE8 := (hX7.trans hx8).alloc (.cells #[.slice A7 (risingL [a0, a1, a2, a3, a4, a5, a6, a7]).length c7] 34)
            have hN8 := Blk.new w8 #[.slice A7 (risingL [a0, a1, a2, a3, a4, a5, a6, a7]).length c7] 34
            have hR8 := OwnL.alloc (OwnL.below hR7 hx8.below) (.cells #[.slice A7 (risingL [a0, a1, a2, a3, a4, a5, a6, a7]).length c7] 34)
            refine hK _ _ (hS5.ext hE8) ?_
            clear hK K hx8 hX67 hx6 hX7 hR7
            generalize w8.heap.size = g8 at hN8 ⊢
            generalize w8.alloc _ = W8 at hN8 hE8 hR8 ⊢
            refine wpZ_want (i := 5) (by kernel_rfl) rfl (by simp [Region.wanted, yielded]) ?_
            intro w9 hx9 K hK
            have hE9 := hE8.trans hx9
            have hM9 := HM5.out.ext' hE9
            have hR9 := OwnL.below hR8 hx9.below
            refine wp_push _ _ 35 rfl w.heap.size 34 Tryd.underlying35 infoRow rfl (by decide) (by decide) encRow ps _ rfl hM9.pend (risingL [a0, a1, a2, a3, a4, a5, a6, a7], .slice A7 (risingL [a0, a1, a2, a3, a4, a5, a6, a7]).length c7) g8 #[.slice A7 (risingL [a0, a1, a2, a3, a4, a5, a6, a7]).length c7] 34 rfl (hN8.ext hx9) rfl rfl (encRow_one _ rfl) (by have := HLP.out; omega) (by have := hM9.ext.size; omega) ?_
            intro v10 w10 hown10 hg10 hloc10 _
            have hS9 := hS5.ext hE9
            have hS10 : WBox w.heap.size #[.slice A4 (x.ran.length + 1) c4, .slice Ap ps.length cp] #[.bool a0, .bool a1, .bool a2, .bool a3, .bool a4, .bool a5, .bool a6, .bool a7] w10 := ⟨hS9.1.grown hg10 (own_ne_blk hM9.pend hS9.1 (by decide)), hS9.2.grown hg10 (own_ne_blk hM9.pend hS9.2 (by decide))⟩
            obtain ⟨A10, c10, rfl⟩ := own_slice hown10
            refine hK _ _ hS10 ?_
            clear hK K hx9 hN8 hE8 hS9
            refine wpZ_last (by kernel_rfl) rfl (by simp [Region.wanted, yielded]) ?_
            intro w11 hx11 K hK
            have hS11 := hS10.ext hx11
            have hc11 := hS11.1.cell
            have hf11 := hS11.1.free
            go_simp
            have hne9 : ∀ q, (Value.slice A4 (x.ran.length + 1) c4).ownBlock = some q → (Value.slice A7 (risingL [a0, a1, a2, a3, a4, a5, a6, a7]).length c7).ownBlock ≠ some q := fun q hq e => by
              have h1 := (OwnL.lt HM5.out.ran q hq).2
              have h2 := (OwnL.lt hR8 q e).1
              omega
            have hM11 := OfM.row hM9 (OwnL.lower hR9 (by have := HM5.out.ext.size; omega)) hne9 (grown_ext' hg10 hx11) (OwnL.below hown10 hx11.below)
            have hA11 : ArrB (w11.setCell ⟨w.heap.size + 1, 1, none⟩ (.slice A10 (ps.length + 1) c10)) (w.heap.size + 1 + 1) [a0, a1, a2, a3, a4, a5, a6, a7] := ⟨hS11.2.far (p := ⟨w.heap.size + 1, 1, none⟩) (by show w.heap.size + 1 + 1 ≠ w.heap.size + 1; omega) _, rfl⟩
            rw [List.length_append, List.length_singleton] at hM11
            refine hK _ _ ?_
            clear hK K hc11 hf11 hx11 hS10 hS11 hown10 hg10 hloc10 hM9 hR9 hE9 hne9 hR8
            generalize w11.setCell _ _ = W12 at hM11 hA11 ⊢
            refine wpZ_done (by kernel_rfl) (fun W13 hX13 => ?_) _
            have HM13 := Lib.hid (hM11.ext' hX13)
            have HA13 := Lib.hid (hA11.ext hX13)
            clear hM11 hA11 hX13 hk5 ht5 hS5
            cases hfn : o.fin with
            | false =>
              have hnx : o.next = ⟨o.there, o.now, false, 0⟩ := by unfold OfS.next; rw [hfn]; rfl
              have HNX := Lib.hid hnx
              clear hnx
              go_wp2_with (fail)
              exact ⟨⟨m + 1, j, _, _, _, hlt, rfl, rfl, by rw [HE.out, HNX.out], Lib.hid (by rw [HE.out]), hjL', by rw [HE.out, HTH.out]; exact HM13.out, by rw [HE.out, HNX.out, HTH.out]; exact HA13.out⟩, by simp [intOf]; omega⟩
            | true =>
              have hnx : o.next = ⟨o.there.set o.at'.toNat false, -1, false, 0⟩ := by unfold OfS.next; rw [hfn]; rfl
              obtain ⟨q0, q8⟩ := hat8 hfn
              obtain ⟨q, hq⟩ := Int.eq_ofNat_of_zero_le q0
              rw [hq, Int.toNat_natCast] at hnx
              rw [hq] at q8
              have hq8 : q < 8 := by omega
              have HNX := Lib.hid hnx
              have HQ := Lib.hid hq
              have hca := HA13.out.at hq8
              have hfa := HA13.out.box.free q
              rw [hq]
              clear hnx hq q0
              go_wp2_with (fail)
              exact ⟨⟨m + 1, j, _, _, _, hlt, rfl, rfl, by rw [HE.out, HNX.out], Lib.hid (by rw [HE.out]), hjL', by rw [HE.out, HTH.out]; exact HM13.out.flag HA13.out q false, by rw [HE.out, HNX.out, HTH.out]; exact HA13.out.set q false⟩, by simp [intOf]; omega⟩
          | true =>
            have HIN2 := Lib.hid (hnext (by simpa using dt))
            have hjc : Hid (j + 1 = i0 + (c1 + 1)) := Lib.hid (by rw [hji.out]; omega)
            clear hnext hstop x0 x1 x2 x3 hA1
            go_wp2_with (fail)
            have hE6 := (Ext.refl wr).alloc (.cells #[.int .i64 p0, .int .i64 p1, .int .i64 p2, .int .i64 p3] 41)
            have hB6 := Blk.new wr #[.int .i64 p0, .int .i64 p1, .int .i64 p2, .int .i64 p3] 41
            refine (evTask_any p0 p1 p2 p3 _).mono ?_
            rintro e w7 ⟨rfl, hX7⟩
            have hE7 := hE6.trans hX7
            have hB7 := hB6.ext hX7
            have hc7 := hB7.cell
            have HM7 := Lib.hid (HM1.out.ext' hE7)
            have HA7 := Lib.hid (HAA.out.ext hE7)
            clear y0 y1 y2 y3 hE6 hB6 hX7 HM1 HAA
            cases ht : (⟨p0, p1, p2, p3⟩ : Ev).isTask with
            | false =>
              have HV := Lib.hid (OfS.ev_off (o := o) ht)
              rw [HV.out] at HIN2
              go_wp2_with (fail)
              exact ⟨⟨j + 1, c1 + 1, o, hjc, rfl, rfl, rfl, rfl, HIN2.out, HM7.out, HA7.out⟩, by simp [intOf]; omega⟩
            | true =>
              have hts := ht
              unfold Ev.isTask at hts
              simp only [Bool.and_eq_true, decide_eq_true_eq] at hts
              obtain ⟨n2, hn2⟩ := Int.eq_ofNat_of_zero_le hts.1
              subst hn2
              have hn8 : n2 < 8 := by omega
              have hn8i : (n2 : Int) < 8 := by omega
              have hin8 : (0 : Int) ≤ (n2 : Int) ∧ (n2 : Int) < 8 := by omega
              have hfr : p1 = 1 ∨ p1 = 4 ∨ p1 = 5 ∨ p1 = 6 ∨ p1 = 8 ∨ p1 = 9 ∨ (p1 ≠ 1 ∧ p1 ≠ 4 ∧ p1 ≠ 5 ∧ p1 ≠ 6 ∧ p1 ≠ 8 ∧ p1 ≠ 9) := by omega
              rcases hfr with rfl | rfl | rfl | rfl | rfl | rfl | ⟨n1, n4, n5, n6, n8, n9⟩
              · have hv := OfS.ev_admit (o := o) (e := ⟨p0, 1, n2, p3⟩) hin8 rfl
                try dsimp only at hv
                rw [Int.toNat_natCast] at hv
                rw [hv] at HIN2
                have hca := HA7.out.at hn8
                have hfa := HA7.out.box.free n2
                clear ht hts hv
                go_wp2_with (fail)
                exact ⟨⟨j + 1, c1 + 1, { o with there := o.there.set n2 true }, hjc, rfl, rfl, rfl, rfl, HIN2.out, HM7.out.flag HA7.out n2 true, HA7.out.set n2 true⟩, by simp [intOf]; omega⟩
              · have hv := OfS.ev_run (o := o) (e := ⟨p0, 4, n2, p3⟩) hin8 (.inl rfl)
                try dsimp only at hv
                rw [hv] at HIN2
                clear ht hts hv
                go_wp2_with (fail)
                exact ⟨⟨j + 1, c1 + 1, { o with now := n2 }, hjc, rfl, rfl, rfl, rfl, HIN2.out, HM7.out, HA7.out⟩, by simp [intOf]; omega⟩
              · have hv := OfS.ev_pre (o := o) (e := ⟨p0, 5, n2, p3⟩) hin8 rfl
                try dsimp only at hv
                rw [hv] at HIN2
                clear ht hts hv
                go_wp2_with (fail)
                exact ⟨⟨j + 1, c1 + 1, { o with now := -1 }, hjc, rfl, rfl, rfl, rfl, HIN2.out, HM7.out, HA7.out⟩, by simp [intOf]; omega⟩
              · have hv := OfS.ev_run (o := o) (e := ⟨p0, 6, n2, p3⟩) hin8 (.inr rfl)
                try dsimp only at hv
                rw [hv] at HIN2
                clear ht hts hv
                go_wp2_with (fail)
                exact ⟨⟨j + 1, c1 + 1, { o with now := n2 }, hjc, rfl, rfl, rfl, rfl, HIN2.out, HM7.out, HA7.out⟩, by simp [intOf]; omega⟩
              · have hv := OfS.ev_end (o := o) (e := ⟨p0, 8, n2, p3⟩) hin8 (.inl rfl)
                try dsimp only at hv
                rw [hv] at HIN2
                clear ht hts hv
                go_wp2_with (fail)
                go_quiet (fail)
                go_wp2_with (fail)
                exact ⟨⟨j + 1, c1 + 1, { o with fin := true, at' := n2 }, hjc, rfl, rfl, rfl, rfl, HIN2.out, HM7.out.ext' ((Ext.refl _).drewN _), HA7.out.ext ((Ext.refl _).drewN _)⟩, by simp [intOf]; omega⟩
              · have hv := OfS.ev_end (o := o) (e := ⟨p0, 9, n2, p3⟩) hin8 (.inr rfl)
                try dsimp only at hv
                rw [hv] at HIN2
                clear ht hts hv
                go_wp2_with (fail)
                go_quiet (fail)
                go_wp2_with (fail)
                exact ⟨⟨j + 1, c1 + 1, { o with fin := true, at' := n2 }, hjc, rfl, rfl, rfl, rfl, HIN2.out, HM7.out.ext' ((Ext.refl _).drewN _), HA7.out.ext ((Ext.refl _).drewN _)⟩, by simp [intOf]; omega⟩
              · have hv := OfS.ev_none (o := o) (e := ⟨p0, p1, n2, p3⟩) n1 n4 n5 n6 n8 n9
                rw [hv] at HIN2
                have d1 : (p1 == 1) = false := by rw [beq_eq_false_iff_ne]; exact n1
                have d4 : (p1 == 4) = false := by rw [beq_eq_false_iff_ne]; exact n4
                have d5 : (p1 == 5) = false := by rw [beq_eq_false_iff_ne]; exact n5
                have d6 : (p1 == 6) = false := by rw [beq_eq_false_iff_ne]; exact n6
                have d8 : (p1 == 8) = false := by rw [beq_eq_false_iff_ne]; exact n8
                have d9 : (p1 == 9) = false := by rw [beq_eq_false_iff_ne]; exact n9
                clear ht hts hv n1 n4 n5 n6 n8 n9
                go_wp2_with (fail)
                exact ⟨⟨j + 1, c1 + 1, o, hjc, rfl, rfl, rfl, rfl, HIN2.out, HM7.out, HA7.out⟩, by simp [intOf]; omega⟩
        · have HSTOP := Lib.hid (show i0 + c1 < L.length → (evAt L (i0 + c1)).tick ≠ (m : Int) from fun h => by rw [← hji.out] at h; exact absurd h hj)
          clear hM1 hA1
          have htick := hin.tick (x := x) hrest.out HSTOP.out
          have hE : ofT L (m + 1) = ⟨L.drop j, o.next, x.ran ++ [o.now], x.pend ++ [risingL o.there]⟩ := by rw [hsucc.out, htick, hji.out]
          have HE := Lib.hid hE
          have hat8 := hin.at'
          have hlen8 := hin.len
          have hjL := hin.le
          have hM := HM1.out
          obtain ⟨Ar, cr, hvr, _, _⟩ := OwnL.form hM.ran
          obtain ⟨Ap, cp, hvp, _, _⟩ := OwnL.form hM.pend
          subst hvr hvp
          have HLX := Lib.hid HLEN.out.1
          have HLP := Lib.hid (show ps.length = m by rw [← HLEN.out.2, ← hM.eq, List.length_map])
          have hbc := hM.box.cell
          have hbf := hM.box.free
          have hsz := hM.ext.size
          have HM2 := Lib.hid hM
          clear htick hE hM
          go_upto_region 26 with (at_builtin; (refine wpList_push rfl _ _ 34 rfl w.heap.size 3 Tryd.underlying34 infoInt rfl (by decide) (by decide) encN x.ran _ rfl (OwnL.alloc HM2.out.ran _) o.now wr.heap.size #[.int .i64 o.now] 3 rfl (Blk.new _ _ _) rfl rfl (encN_one _) ?_ ?_ ?_; (· have := HLX.out; omega); (· simp; omega); (intro v4 w4 hown4 hg4 hloc4 _; have hb4 := ((HM2.out.box.alloc (.cells #[.int .i64 o.now] 3)).grown hg4 (own_ne_blk HM2.out.ran HM2.out.box (by decide))); have hb4c := hb4.cell; have hb4f := hb4.free; clear hbc; obtain ⟨A4, c4, rfl⟩ := own_slice hown4)))
          have hM5 := (HM2.out.ext' ((Ext.refl wr).alloc (.cells #[.int .i64 o.now] 3))).more hg4 hown4 hloc4
          have hA5 : ArrB (w4.setCell ⟨w.heap.size + 1, 0, none⟩ (.slice A4 (x.ran ++ [o.now]).length c4)) (w.heap.size + 1 + 1) o.there := ⟨(((HAA.out.box.alloc (.cells #[.int .i64 o.now] 3)).grown hg4 (own_ne_blk HM2.out.ran HAA.out.box (by decide))).far (p := ⟨w.heap.size + 1, 0, none⟩) (by show w.heap.size + 1 + 1 ≠ w.heap.size + 1; omega) _), HAA.out.len⟩
          rw [List.length_append, List.length_singleton] at hM5 hA5
          clear hb4 hb4c hb4f hbf hown4 hg4 hloc4
          generalize World.setCell _ _ _ = W5 at hM5 hA5 ⊢
          obtain ⟨a0, a1, a2, a3, a4, a5, a6, a7, hth⟩ := list8 hlen8
          rw [hth] at hA5
          have hS5 : WBox w.heap.size #[.slice A4 (x.ran.length + 1) c4, .slice Ap ps.length cp] #[.bool a0, .bool a1, .bool a2, .bool a3, .bool a4, .bool a5, .bool a6, .bool a7] W5 := ⟨hM5.box, hA5.box⟩
          have hk5 : ∀ w', WBox w.heap.size #[.slice A4 (x.ran.length + 1) c4, .slice Ap ps.length cp] #[.bool a0, .bool a1, .bool a2, .bool a3, .bool a4, .bool a5, .bool a6, .bool a7] w' → ∀ j, w'.cell? ⟨w.heap.size + 1, j, none⟩ = #[.slice A4 (x.ran.length + 1) c4, .slice Ap ps.length cp][j]? := fun w' h => Blk.cell h.1
          have ht5 : ∀ w', WBox w.heap.size #[.slice A4 (x.ran.length + 1) c4, .slice Ap ps.length cp] #[.bool a0, .bool a1, .bool a2, .bool a3, .bool a4, .bool a5, .bool a6, .bool a7] w' → ∀ j, w'.cell? ⟨w.heap.size + 1 + 1, j, none⟩ = #[.bool a0, .bool a1, .bool a2, .bool a3, .bool a4, .bool a5, .bool a6, .bool a7][j]? := fun w' h => Blk.cell h.2
          have HM5 := Lib.hid hM5
          have HA5 := Lib.hid hA5
          have HTH := Lib.hid hth
          clear hM5 hA5 hth HM2
          refine wp_region_mixZ (T := [3, 4, 5, 7]) (z := 7) (S := WBox w.heap.size #[.slice A4 (x.ran.length + 1) c4, .slice Ap ps.length cp] #[.bool a0, .bool a1, .bool a2, .bool a3, .bool a4, .bool a5, .bool a6, .bool a7]) (W := W5) (fun _ _ h hx => h.ext hx) (by kernel_rfl) (by kernel_rfl) (by kernel_rfl) (Ext.refl W5).drew hS5 (fun _ _ h => h) (fun K hK => ?_)
          (repeat (first | (refine hX_skip ?_ ?_; (· rfl)) | (apply hX_and; (· rfl); (· rfl); (· rfl); (· rfl); (· rfl); simp only [Act.put, List.setIfInBounds_toArray, List.set_cons_zero, List.set_cons_succ]) | (apply hX_or; (· rfl); (· rfl); (· rfl); (· rfl); (· rfl); simp only [Act.put, List.setIfInBounds_toArray, List.set_cons_zero, List.set_cons_succ]) | (apply hX_off; (· rfl); (· rfl); (· rfl); simp only [Act.put, List.setIfInBounds_toArray, List.set_cons_zero, List.set_cons_succ]) | (apply hX_val; (· rfl); (· intro w hS; go_simp; with_reducible rfl); (· rfl); simp only [Act.put, List.setIfInBounds_toArray, List.set_cons_zero, List.set_cons_succ]) | (apply hX_call; (· rfl); (· rfl); (· intro w hS; go_simp; exact ⟨rfl, rfl⟩); (· intro w hS; fail); simp only [Act.put, List.setIfInBounds_toArray, List.set_cons_zero, List.set_cons_succ]) | (apply hX_if; (· rfl); (· rfl); (· rfl); (· intro hif w hS; go_simp; with_reducible rfl); simp only [Act.put, List.setIfInBounds_toArray, List.set_cons_zero, List.set_cons_succ]) | (apply hX_ifcall; (· rfl); (· rfl); (· rfl); (· intro hif w hS; go_simp; exact ⟨rfl, rfl⟩); (· intro hif w hS; fail); simp only [Act.put, List.setIfInBounds_toArray, List.set_cons_zero, List.set_cons_succ]))); refine hX_nil ?_
          refine hK _ ?_
          clear hK K
          refine wpZ_want (i := 3) (by kernel_rfl) rfl (by simp [Region.wanted, yielded]) ?_
          intro w6 hx6 K hK
          go_simp
          refine (rising_any a0 a1 a2 a3 a4 a5 a6 a7 w6).mono ?_
          rintro e w7 ⟨v7, rfl, hR7, hX67⟩
          have hX7 := hx6.trans hX67
          refine hK _ _ (hS5.ext hX7) ?_
          clear hK K
          obtain ⟨A7, c7, rfl, _, _⟩ := OwnL.form hR7
          have hW56 := hx6.size
          refine wpZ_want (i := 4) (by kernel_rfl) rfl (by simp [Region.wanted, yielded]) ?_
          intro w8 hx8 K hK
          go_simp
          have hE8 := (hX7.trans hx8).alloc (.cells #[.slice A7 (risingL [a0, a1, a2, a3, a4, a5, a6, a7]).length c7] 34)
          have hN8 := Blk.new w8 #[.slice A7 (risingL [a0, a1, a2, a3, a4, a5, a6, a7]).length c7] 34
          have hR8 := OwnL.alloc (OwnL.below hR7 hx8.below) (.cells #[.slice A7 (risingL [a0, a1, a2, a3, a4, a5, a6, a7]).length c7] 34)
          refine hK _ _ (hS5.ext hE8) ?_
          clear hK K hx8 hX67 hx6 hX7 hR7
          generalize w8.heap.size = g8 at hN8 ⊢
          generalize w8.alloc _ = W8 at hN8 hE8 hR8 ⊢
          refine wpZ_want (i := 5) (by kernel_rfl) rfl (by simp [Region.wanted, yielded]) ?_
          intro w9 hx9 K hK
          have hE9 := hE8.trans hx9
          have hM9 := HM5.out.ext' hE9
          have hR9 := OwnL.below hR8 hx9.below
          refine wp_push _ _ 35 rfl w.heap.size 34 Tryd.underlying35 infoRow rfl (by decide) (by decide) encRow ps _ rfl hM9.pend (risingL [a0, a1, a2, a3, a4, a5, a6, a7], .slice A7 (risingL [a0, a1, a2, a3, a4, a5, a6, a7]).length c7) g8 #[.slice A7 (risingL [a0, a1, a2, a3, a4, a5, a6, a7]).length c7] 34 rfl (hN8.ext hx9) rfl rfl (encRow_one _ rfl) (by have := HLP.out; omega) (by have := hM9.ext.size; omega) ?_
          intro v10 w10 hown10 hg10 hloc10 _
          have hS9 := hS5.ext hE9
          have hS10 : WBox w.heap.size #[.slice A4 (x.ran.length + 1) c4, .slice Ap ps.length cp] #[.bool a0, .bool a1, .bool a2, .bool a3, .bool a4, .bool a5, .bool a6, .bool a7] w10 := ⟨hS9.1.grown hg10 (own_ne_blk hM9.pend hS9.1 (by decide)), hS9.2.grown hg10 (own_ne_blk hM9.pend hS9.2 (by decide))⟩
          obtain ⟨A10, c10, rfl⟩ := own_slice hown10
          refine hK _ _ hS10 ?_
          clear hK K hx9 hN8 hE8 hS9
          refine wpZ_last (by kernel_rfl) rfl (by simp [Region.wanted, yielded]) ?_
          intro w11 hx11 K hK
          have hS11 := hS10.ext hx11
          have hc11 := hS11.1.cell
          have hf11 := hS11.1.free
          go_simp
          have hne9 : ∀ q, (Value.slice A4 (x.ran.length + 1) c4).ownBlock = some q → (Value.slice A7 (risingL [a0, a1, a2, a3, a4, a5, a6, a7]).length c7).ownBlock ≠ some q := fun q hq e => by
            have h1 := (OwnL.lt HM5.out.ran q hq).2
            have h2 := (OwnL.lt hR8 q e).1
            omega
          have hM11 := OfM.row hM9 (OwnL.lower hR9 (by have := HM5.out.ext.size; omega)) hne9 (grown_ext' hg10 hx11) (OwnL.below hown10 hx11.below)
          have hA11 : ArrB (w11.setCell ⟨w.heap.size + 1, 1, none⟩ (.slice A10 (ps.length + 1) c10)) (w.heap.size + 1 + 1) [a0, a1, a2, a3, a4, a5, a6, a7] := ⟨hS11.2.far (p := ⟨w.heap.size + 1, 1, none⟩) (by show w.heap.size + 1 + 1 ≠ w.heap.size + 1; omega) _, rfl⟩
          rw [List.length_append, List.length_singleton] at hM11
          refine hK _ _ ?_
          clear hK K hc11 hf11 hx11 hS10 hS11 hown10 hg10 hloc10 hM9 hR9 hE9 hne9 hR8
          generalize w11.setCell _ _ = W12 at hM11 hA11 ⊢
          refine wpZ_done (by kernel_rfl) (fun W13 hX13 => ?_) _
          have HM13 := Lib.hid (hM11.ext' hX13)
          have HA13 := Lib.hid (hA11.ext hX13)
          clear hM11 hA11 hX13 hk5 ht5 hS5
          cases hfn : o.fin with
          | false =>
            have hnx : o.next = ⟨o.there, o.now, false, 0⟩ := by unfold OfS.next; rw [hfn]; rfl
            have HNX := Lib.hid hnx
            clear hnx
            go_wp2_with (fail)
            exact ⟨⟨m + 1, j, _, _, _, hlt, rfl, rfl, by rw [HE.out, HNX.out], Lib.hid (by rw [HE.out]), hjL', by rw [HE.out, HTH.out]; exact HM13.out, by rw [HE.out, HNX.out, HTH.out]; exact HA13.out⟩, by simp [intOf]; omega⟩
          | true =>
            have hnx : o.next = ⟨o.there.set o.at'.toNat false, -1, false, 0⟩ := by unfold OfS.next; rw [hfn]; rfl
            obtain ⟨q0, q8⟩ := hat8 hfn
            obtain ⟨q, hq⟩ := Int.eq_ofNat_of_zero_le q0
            rw [hq, Int.toNat_natCast] at hnx
            rw [hq] at q8
            have hq8 : q < 8 := by omega
            have HNX := Lib.hid hnx
            have HQ := Lib.hid hq
            have hca := HA13.out.at hq8
            have hfa := HA13.out.box.free q
            rw [hq]
            clear hnx hq q0
            go_wp2_with (fail)
            exact ⟨⟨m + 1, j, _, _, _, hlt, rfl, rfl, by rw [HE.out, HNX.out], Lib.hid (by rw [HE.out]), hjL', by rw [HE.out, HTH.out]; exact HM13.out.flag HA13.out q false, by rw [HE.out, HNX.out, HTH.out]; exact HA13.out.set q false⟩, by simp [intOf]; omega⟩
    · have hme : m = n := by omega
      subst hme
      obtain ⟨Ar, cr, hvr, _, _⟩ := OwnL.form hM.ran
      obtain ⟨Ap, cp, hvp, _, _⟩ := OwnL.form hM.pend
      subst hvr hvp
      have hb := hM.box.cell
      have hr := hM.res.cell
      have hrf := hM.res.free
      have HM := Lib.hid hM
      generalize hx : ofT L m = x at *
      have HX := Lib.hid hx
      clear hM hA hx
      go_wp2_with (fail)
      have hres := (HM.out.res.set 0 (.slice Ar x.ran.length cr)).set 1 (.slice Ap ps.length cp)
      simp only [List.setIfInBounds_toArray, List.set_cons_zero, List.set_cons_succ] at hres
      have hrc := hres.cell
      have hM3 : Ext w (((wr).setCell ⟨w.heap.size, 0, none⟩ (.slice Ar x.ran.length cr)).setCell ⟨w.heap.size, 1, none⟩ (.slice Ap ps.length cp)) := (HM.out.ext.set (Nat.le_refl _) _).set (Nat.le_refl _) _
      have hres1 := HM.out.res.set 0 (.slice Ar x.ran.length cr)
      have hf : ∀ {α : Type} {enc : α → List Value} {e : TypeId} {v : Value} {xs : List α}, OwnL enc wr w.heap.size e 1 v xs → e ≠ 37 → OwnL enc (((wr).setCell ⟨w.heap.size, 0, none⟩ (.slice Ar x.ran.length cr)).setCell ⟨w.heap.size, 1, none⟩ (.slice Ap ps.length cp)) w.heap.size e 1 v xs := fun h hne => by
        have h1 := OwnL.set h (a := ⟨w.heap.size, 0, none⟩) (own_ne_blk h HM.out.res hne) (.slice Ar x.ran.length cr)
        exact OwnL.set h1 (a := ⟨w.heap.size, 1, none⟩) (own_ne_blk h1 hres1 hne) _
      have hd := dems_own (hf HM.out.pend (by decide)) (fun p hp => hf (HM.out.rows p hp) (by decide))
      rw [HM.out.eq] at hd
      refine bodyPost_ret (v := .agg #[.slice Ar x.ran.length cr, .slice Ap ps.length cp]) (by simp [results, Tryd.results17, go_sem, hrc]) rfl ⟨_, _, rfl, by rw [HX.out]; exact OwnL.ints (hf HM.out.ran (by decide)), by rw [HX.out]; exact hd, hM3⟩
end Go.Proofs.YtniejidekflmiaaDoor
