/- RaiseMore. -/
import Derived.Test.YtknfdjnbndfboabGreatDoorProg
import Derived.Test.YtknfdjnbndfboabGreatDoorBase
import Derived.Test.YtknfdjnbndfboabGreatDoorHeldX
import Derived.Test.YtknfdjnbndfboabGreatDoorApp
import Derived.Test.YtknfdjnbndfboabGreatDoorTsk1
import Derived.Test.YtknfdjnbndfboabGreatDoorTsk3
import Derived.Test.YtknfdjnbndfboabGreatDoorTsk4
import Derived.Test.YtknfdjnbndfboabGreatDoorTskZ
import Derived.Test.YtknfdjnbndfboabGreatDoorTskP
import Derived.Test.YtknfdjnbndfboabGreatDoorTskN
import Derived.Test.YtknfdjnbndfboabGreatDoorTskA
import Derived.Test.YtknfdjnbndfboabGreatDoorTskO
import Derived.Test.YtknfdjnbndfboabGreatDoorSetO
import Derived.Test.YtknfdjnbndfboabGreatDoorRespS
import Derived.Test.YtknfdjnbndfboabGreatDoorResp
import Derived.Test.YtknfdjnbndfboabGreatDoorTolA
import Derived.Test.YtknfdjnbndfboabGreatDoorTolP
import Derived.Test.YtknfdjnbndfboabGreatDoorAdm
import Derived.Test.YtknfdjnbndfboabGreatDoorRef9
import Derived.Test.YtknfdjnbndfboabGreatDoorRefJ
import Derived.Test.YtknfdjnbndfboabGreatDoorSprO
import Derived.Test.YtknfdjnbndfboabGreatDoorSprP
import Derived.Test.YtknfdjnbndfboabGreatDoorSprL
import Derived.Test.YtknfdjnbndfboabGreatDoorRaiO
import Derived.Test.YtknfdjnbndfboabGreatDoorRaiP
import Derived.Test.YtknfdjnbndfboabGreatDoorRaiL
import Derived.Test.YtknfdjnbndfboabGreatDoorWpxR
import Derived.Test.YtknfdjnbndfboabGreatDoorLaw17k
import Derived.Deep.Cut
import Derived.Lib.Hide
namespace Go.Proofs.YtknfdjnbndfboabGreatDoor
open Go.RowKit
attribute [local go_sem] setCell_twice ByteArray.toList_eq str_list Ext.alloc Ext.drew vdHow
set_option linter.unusedSimpArgs false
set_option maxRecDepth 100000
set_option maxHeartbeats 6400000
attribute [local irreducible] popN Calls

theorem more17_pack {s : TSet} (hf : s.fit) {ps : List Int} (ho : raiseQ s = some ps) (k : Nat) (hk : k < s.tasks.length) :
    ∃ (y : TSet) (th : Int), raiseS s = y ∧ allB y = true ∧ y.fit ∧ y.tasks.length = s.tasks.length ∧ (∀ h : k < y.tasks.length, y.tasks[k].theta = th) ∧ (0 ≤ th ∧ th ≤ k) ∧ k ≤ 10000 ∧
      (∀ z, th ≤ z → z ≤ k → Fine (y.at k (thrT z)) ∧ (judgeS (y.at k (thrT z))).how = 1) ∧
      (th ≠ 0 → Fine (y.at k (thrT (th - 1))) ∧ (judgeS (y.at k (thrT (th - 1)))).how ≠ 1) := by
  obtain ⟨bs, hS⟩ := Raise.of hf ho
  have hkq : k < ps.length := by rw [hS.plen]; exact hk
  have hlen := hS.fine.len
  have hzl := zipT_len threshT s ps hS.plen
  have hr := hS.thr.each k hkq
  have fine : ∀ z, 0 ≤ z → z ≤ (k : Int) → Fine ((zipT threshT s ps).at k (thrT z)) := fun z h0 h1 => by
    rw [zipT_thr s ps hS.plen]
    have ht := hS.lessThr k z ⟨h0, h1⟩
    exact fine_of (ht.all hS.all) (ht.fit hlen.2 hf)
  refine ⟨zipT threshT s ps, ps[k], raiseS_some ho, hS.thr.all hS.all, hS.thr.fit hlen.2 hf, hzl, fun h => ?_, hr, by omega, fun z h0 h1 => ⟨fine z (by omega) h1, ?_⟩, fun h => ⟨fine _ (by omega) (by omega), ?_⟩⟩
  · rw [zipT_get threshT s ps k h hk hkq]
    rfl
  · rw [zipT_thr s ps hS.plen]
    refine hS.acc hf (hS.lessThr k z ⟨by omega, h1⟩) fun j h2 h3 => ?_
    rw [List.getElem_set]
    split
    · rename_i e; subst e; exact h0
    · exact Int.le_refl _
  · rw [zipT_thr s ps hS.plen]
    exact hS.not hf k hkq h (hS.lessThr k _ ⟨by omega, by omega⟩)
/-- which of region 8's may come -/
def chk8 (b1 b3 b4 b5 : Bool) (i : Nat) : Bool := (i == 1 && !b1) || (i == 3 && !b3 && b1) || (i == 4 && !b4) || (i == 5 && !b5) || (b1 && b3 && b4 && b5)
def cnt8 (b1 b3 b4 b5 : Bool) : Nat := (!b1).toNat + (!b3).toNat + (!b4).toNat + (!b5).toNat
/-- region 8: what is made when these have been -/
structure Got8 (W : World) (y : TSet) (n : Nat) (b1 b3 b4 b5 : Bool) (s9 s10 s50 s52 : Value) (w : World) : Prop where
  ext : Ext W w
  seq : b3 = true → b1 = true
  i9 : b4 = true → ∃ g, s9 = .pointer (some ⟨g, 0, none⟩) ∧ Blk w g #[.int .i64 0, .slice none 0 0] 24 ∧ W.heap.size ≤ g
  i10 : b5 = true → ∃ g, s10 = .pointer (some ⟨g, 0, none⟩) ∧ Blk w g #[.int .i64 0, .slice none 0 0] 24 ∧ W.heap.size ≤ g
  ne : b4 = true → b5 = true → s9 ≠ s10
  up : b1 = true → ∃ g c ps, s50 = setV y (.slice (some ⟨g, 0, none⟩) n c) ∧ PutOwn w W.heap.size (.slice (some ⟨g, 0, none⟩) n c) ps ∧ ps.map (·.1) = y.tasks ∧ g < w.heap.size
  down : b3 = true → ∃ g c ps, s52 = setV y (.slice (some ⟨g, 0, none⟩) n c) ∧ PutOwn w W.heap.size (.slice (some ⟨g, 0, none⟩) n c) ps ∧ ps.map (·.1) = y.tasks ∧ ∀ g' c', s50 = setV y (.slice (some ⟨g', 0, none⟩) n c') → g' ≠ g
theorem Got8.grow {W : World} {y : TSet} {n : Nat} {b1 b3 b4 b5 : Bool} {s9 s10 s50 s52 : Value} {w w' : World} (h : Got8 W y n b1 b3 b4 b5 s9 s10 s50 s52 w) (hx : Ext w w') : Got8 W y n b1 b3 b4 b5 s9 s10 s50 s52 w' := by
  refine ⟨h.ext.trans hx, h.seq, fun hb => ?_, fun hb => ?_, h.ne, fun hb => ?_, fun hb => ?_⟩
  · obtain ⟨g, e, h1, h2⟩ := h.i9 hb
    exact ⟨g, e, h1.ext hx, h2⟩
  · obtain ⟨g, e, h1, h2⟩ := h.i10 hb
    exact ⟨g, e, h1.ext hx, h2⟩
  · obtain ⟨g, c, ps, e, h1, h2, h3⟩ := h.up hb
    exact ⟨g, c, ps, e, h1.ext hx, h2, Nat.lt_of_lt_of_le h3 hx.size⟩
  · obtain ⟨g, c, ps, e, h1, h2, h3⟩ := h.down hb
    exact ⟨g, c, ps, e, h1.ext hx, h2, h3⟩
theorem raiseMore_walk (v : Value) (s : TSet) (i b : Int) (w : World) (hv : ∃ x, v = setV s x ∧ Tasks w x s.tasks ∧ s.fit) (_ : (Lit.int .i64 i).wf = true) (_ : (Lit.int .i64 b).wf = true) (hG : GOK w) :
    Calls Tryz.prog 5 #[v, .int .i64 i, .int .i64 b] w fun e w' => e = .returned (.bool true) ∧ Below w.heap.size w w' := by
  obtain ⟨x, rfl, hx, hf⟩ := hv
  have l1 := hx.len
  have hg := hf.good
  have hx0 := hx
  obtain ⟨A, c, rfl, hle, hcm, _⟩ := hx0
  unfold maxLen at hcm
  go_enter Tryz.func5, Tryz.ntmps5
  unfold setV
  go_upto_region 1 with (fail)
  have hL : Below w.heap.size w (w.alloc (.cells #[.int .i64 s.reload, (.slice A s.tasks.length c)] 24)) := (by repeat (first | exact Below.refl _ _ | assumption | refine Below.drew ?_ | refine Below.alloc ?_ (by first | (simp; done) | (simp; omega) | omega) _ | refine Below.setCell ?_ (by first | (simp; done) | (simp; omega) | omega) _)); have hB : Blk (w.alloc (.cells #[.int .i64 s.reload, (.slice A s.tasks.length c)] 24)) w.heap.size #[.int .i64 s.reload, (.slice A s.tasks.length c)] 24 := Blk.new _ _ _
  have hr := hx.ext ⟨hL⟩
  have hG0 := hG.below hL
  generalize w.alloc _ = W at hL hB hr hG0 ⊢
  have hc := hB.under
  have HK := Lib.hid fun (W' : World) (h : Ext W W') => known17_any W' (hG0.below h.below)
  refine wp_region_all' (S := Ext W) (Ext.refl W) (fun K hK => ?_); (repeat (first | (apply hO_and; (· rfl); (· rfl); (· rfl); (· rfl); simp only [Act.put, List.setIfInBounds_toArray, List.set_cons_zero, List.set_cons_succ]) | (apply hO_or; (· rfl); (· rfl); (· rfl); (· rfl); simp only [Act.put, List.setIfInBounds_toArray, List.set_cons_zero, List.set_cons_succ]) | (apply hO_off; (· rfl); (· rfl); simp only [Act.put, List.setIfInBounds_toArray, List.set_cons_zero, List.set_cons_succ]) | (apply hO_val; (· intro w hS; go_simp; with_reducible rfl); (· rfl); simp only [Act.put, List.setIfInBounds_toArray, List.set_cons_zero, List.set_cons_succ]) | (apply hO_call; (· rfl); (· intro w hS; go_simp; exact ⟨rfl, rfl⟩); (· intro w hS; exact callX hS (may17_any s _ _ (hr.ext hS) hg)); simp only [Act.put, List.setIfInBounds_toArray, List.set_cons_zero, List.set_cons_succ]) | (apply hO_if; (· rfl); (· rfl); (· intro hif w hS; go_simp; with_reducible rfl); simp only [Act.put, List.setIfInBounds_toArray, List.set_cons_zero, List.set_cons_succ]) | (apply hO_ifcall; (· rfl); (· rfl); (· intro hif w hS; go_simp; exact ⟨rfl, rfl⟩); (· intro hif w hS; exact callX hS (may17_any s _ _ (hr.ext hS) hg)); simp only [Act.put, List.setIfInBounds_toArray, List.set_cons_zero, List.set_cons_succ]))); refine hO_nil ?_; refine forget_range 11 17 (Nat.le_of_ble_eq_true rfl) (fun junk => ?_); simp only [List.take_succ_cons, List.take_zero, List.drop_succ_cons, List.drop_zero, List.cons_append, List.nil_append, fillF, Nat.reduceAdd]; refine hK _ ?_; clear hK K
  intro w1 hX1
  by_cases hin : may14 s = true ∧ 0 ≤ i ∧ i < s.tasks.length ∧ 0 ≤ b
  · obtain ⟨hm, h0, h1, hb0⟩ := hin
    have hd : (!may14 s || decide (i < 0) || decide ((s.tasks.length : Int) ≤ i) || decide (b < 0)) = false := by rw [hm]; simp; omega
    first | rw [hd] | trace_state
    clear hd
    obtain ⟨k, rfl⟩ := Int.eq_ofNat_of_zero_le (show 0 ≤ i by omega)
    have hk : k < s.tasks.length := by omega
    have hP := raisePut_any s (.slice A s.tasks.length c) w1 (hr.ext hX1) hf (hG0.below hX1.below)
    have hc1 := hc w1 hX1
    clear hm
    cases ho : raiseQ s with
    | none =>
      rw [raiseS_none ho, ho] at hP
      have hP : Calls Tryz.prog 9 #[setV s (.slice A s.tasks.length c)] w1 fun e w' => ∃ v' ps, e = .returned (.tuple #[setV ⟨0, []⟩ v', .bool false]) ∧ PutOwn w' w1.heap.size v' ps ∧ ps.map (·.1) = [] ∧ Below w1.heap.size w1 w' := hP
      clear ho
      go_wp2_with (fail)
      refine hP.mono ?_
      rintro e w2 ⟨v2, ps, rfl, hP2, hps, hb2⟩
      have hX2 := hX1.call hb2
      obtain ⟨Av, cv, rfl, _, _⟩ := hP2.1.form
      unfold setV
      dsimp only
      clear hc1
      go_wp2_with (fail)
      have hX3 := hX2.alloc (.cells #[.int .i64 0, .slice Av ps.length cv] 24)
      refine (HK.out _ hX3).mono ?_
      rintro e w4 ⟨rfl, hb4⟩
      go_wp2_with (fail)
      go_ret
      exact ⟨rfl, hL.trans ((hX3.call hb4).below.mono hL.size)⟩
    | some qs =>
      obtain ⟨y, th, hsy, hall, hfx, hzl, hte, htr, hk4, hdown, hup⟩ := more17_pack hf ho k hk
      rw [hsy, ho] at hP
      clear hsy ho
      have hP : Calls Tryz.prog 9 #[setV s (.slice A s.tasks.length c)] w1 fun e w' => ∃ v' ps, e = .returned (.tuple #[setV y v', .bool true]) ∧ PutOwn w' w1.heap.size v' ps ∧ ps.map (·.1) = y.tasks ∧ Below w1.heap.size w1 w' := hP
      have HA := Lib.hid fun (u : Value) (W' : World) (hT : Tasks W' u y.tasks) => allR_any y u W' hT hfx.good
      rw [hall] at HA
      have HU := Lib.hid fun (u : Value) (W' : World) (hT : Tasks W' u y.tasks) => put_any y u W' hT hfx
      clear hall
      go_wp2_with (fail)
      refine hP.mono ?_
      rintro e w2 ⟨v2, ps2, rfl, hP2, hps, hb2⟩
      have hX2 := hX1.call hb2
      have hT2 : Tasks w2 v2 y.tasks := hps ▸ hP2.tasks
      obtain ⟨Av, cv, rfl, _, _, _⟩ := id hT2
      rw [hzl] at hT2 ⊢
      have HZL := Lib.hid hzl
      clear hP2 hps hc1 hzl
      unfold setV
      dsimp only
      go_upto_region 4 with (fail)
      have hX3 := hX2.alloc (.cells #[.int .i64 y.reload, .slice Av s.tasks.length cv] 24)
      have hBx : Blk (w2.alloc (.cells #[.int .i64 y.reload, .slice Av s.tasks.length cv] 24)) w2.heap.size #[.int .i64 y.reload, .slice Av s.tasks.length cv] 24 := Blk.new _ _ _
      have hT3 := hT2.ext ((Ext.refl w2).alloc (.cells #[.int .i64 y.reload, .slice Av s.tasks.length cv] 24))
      generalize w2.heap.size = gx at hBx ⊢
      generalize w2.alloc _ = w3 at hX3 hBx hT3 ⊢
      obtain ⟨bx, ox, rx, rfl, hxk⟩ := hT3.at (k := k) (by have := HZL.out; omega)
      have hth := hte (by have := HZL.out; omega)
      have HTE := Lib.hid hte
      obtain ⟨x0, x1, x2, x3, x4, x5, x6, x7, x8⟩ := hxk.under
      rw [hth] at x5
      clear x0 x1 x2 x3 x4 x6 x7 x8 hxk hth hte
      have hcx := hBx.under
      have hc3 := fun W' (h : Ext w3 W') => hc W' (hX3.trans h)
      go_upto_region 6 with (fail)
      refine wp_region_all' (S := Ext w3) (Ext.refl w3) (fun K hK => ?_); (repeat (first | (apply hO_and; (· rfl); (· rfl); (· rfl); (· rfl); simp only [Act.put, List.setIfInBounds_toArray, List.set_cons_zero, List.set_cons_succ]) | (apply hO_or; (· rfl); (· rfl); (· rfl); (· rfl); simp only [Act.put, List.setIfInBounds_toArray, List.set_cons_zero, List.set_cons_succ]) | (apply hO_off; (· rfl); (· rfl); simp only [Act.put, List.setIfInBounds_toArray, List.set_cons_zero, List.set_cons_succ]) | (apply hO_val; (· intro w hS; go_simp; with_reducible rfl); (· rfl); simp only [Act.put, List.setIfInBounds_toArray, List.set_cons_zero, List.set_cons_succ]) | (apply hO_call; (· rfl); (· intro w hS; go_simp; exact ⟨rfl, rfl⟩); (· intro w hS; exact callX hS (HA.out _ _ (hT3.ext hS))); simp only [Act.put, List.setIfInBounds_toArray, List.set_cons_zero, List.set_cons_succ]) | (apply hO_if; (· rfl); (· rfl); (· intro hif w hS; go_simp; with_reducible rfl); simp only [Act.put, List.setIfInBounds_toArray, List.set_cons_zero, List.set_cons_succ]) | (apply hO_ifcall; (· rfl); (· rfl); (· intro hif w hS; go_simp; exact ⟨rfl, rfl⟩); (· intro hif w hS; exact callX hS (HA.out _ _ (hT3.ext hS))); simp only [Act.put, List.setIfInBounds_toArray, List.set_cons_zero, List.set_cons_succ]))); refine hO_nil ?_; refine forget_range 37 11 (Nat.le_of_ble_eq_true rfl) (fun junk => ?_); simp only [List.take_succ_cons, List.take_zero, List.drop_succ_cons, List.drop_zero, List.cons_append, List.nil_append, fillF, Nat.reduceAdd]; refine hK _ ?_; clear hK K
      intro w4 hX4
      go_upto_region 8 with (fail)
      refine wp_region_mix (T := [1, 3, 4, 5, 6, 7]) (S := Ext w3) (W := w4) (Ext.mono w3) (by kernel_rfl) (by kernel_rfl) (Ext.refl w4).drew hX4 (fun _ _ h => h) (fun K hK => ?_)
      (repeat (first | (refine hX_skip ?_ ?_; (· rfl)) | (apply hX_and; (· rfl); (· rfl); (· rfl); (· rfl); (· rfl); simp only [Act.put, List.setIfInBounds_toArray, List.set_cons_zero, List.set_cons_succ]) | (apply hX_or; (· rfl); (· rfl); (· rfl); (· rfl); (· rfl); simp only [Act.put, List.setIfInBounds_toArray, List.set_cons_zero, List.set_cons_succ]) | (apply hX_off; (· rfl); (· rfl); (· rfl); simp only [Act.put, List.setIfInBounds_toArray, List.set_cons_zero, List.set_cons_succ]) | (apply hX_val; (· rfl); (· intro w hS; go_simp; with_reducible rfl); (· rfl); simp only [Act.put, List.setIfInBounds_toArray, List.set_cons_zero, List.set_cons_succ]) | (apply hX_call; (· rfl); (· rfl); (· intro w hS; go_simp; exact ⟨rfl, rfl⟩); (· intro w hS; fail); simp only [Act.put, List.setIfInBounds_toArray, List.set_cons_zero, List.set_cons_succ]) | (apply hX_if; (· rfl); (· rfl); (· rfl); (· intro hif w hS; go_simp; with_reducible rfl); simp only [Act.put, List.setIfInBounds_toArray, List.set_cons_zero, List.set_cons_succ]) | (apply hX_ifcall; (· rfl); (· rfl); (· rfl); (· intro hif w hS; go_simp; exact ⟨rfl, rfl⟩); (· intro hif w hS; fail); simp only [Act.put, List.setIfInBounds_toArray, List.set_cons_zero, List.set_cons_succ]))); refine hX_nil ?_
      refine hK _ ?_
      clear hK K
      have hn0 : y.tasks ≠ [] := fun e => by
        have := HZL.out
        rw [e] at this
        simp at this
        omega
      have HN0 := Lib.hid hn0
      clear hn0
      generalize ha : (Act.mk _ [] : Act) = a0
      refine wpX_rule (I := fun n l a w => ∃ b1 b3 b4 b5 s9 s10 s50 s52, n = cnt8 b1 b3 b4 b5 ∧ l = #[true, b1, true, b3, b4, b5, false, false] ∧ a = (((a0.put (some 9) s9).put (some 10) s10).put (some 50) s50).put (some 52) s52 ∧ Got8 w3 y s.tasks.length b1 b3 b4 b5 s9 s10 s50 s52 w) (f' := 2) ?_ ?_ 4 _ _ _ ⟨false, false, false, false, undef, undef, undef, undef, rfl, rfl, ?_, ⟨hX4, fun h => (by cases h), fun h => (by cases h), fun h => (by cases h), fun h => (by cases h), fun h => (by cases h), fun h => (by cases h)⟩⟩
      · rintro l a w5 ⟨b1, b3, b4, b5, s9, s10, s50, s52, hn, rfl, rfl, hGt⟩
        obtain ⟨rfl, rfl, rfl, rfl⟩ : b1 = true ∧ b3 = true ∧ b4 = true ∧ b5 = true := by
          revert hn
          cases b1 <;> cases b3 <;> cases b4 <;> cases b5 <;> simp [cnt8]
        subst ha
        obtain ⟨g9, rfl, hB9, hg9⟩ := hGt.i9 rfl
        obtain ⟨g10, rfl, hB10, hg10⟩ := hGt.i10 rfl
        have hne9 : g9 ≠ g10 := fun e => hGt.ne rfl rfl (by rw [e])
        obtain ⟨gu, cu, pu, rfl, hPu, hpu, _⟩ := hGt.up rfl
        obtain ⟨gd, cd, pd, rfl, hPd, hpd, hud⟩ := hGt.down rfl
        have hud := hud gu cu rfl
        have hX5 := hGt.ext
        clear hGt hn
        simp only [Act.put, List.setIfInBounds_toArray, List.set_cons_zero, List.set_cons_succ]
        unfold setV
        refine wpX_want (i := 6) (by kernel_rfl) rfl (by simp [Region.wanted, yielded]) ?_
        intro w6 hx K hK
        have hB9' := hB9.ext hx
        have hc9 := hB9'.cell
        have hf9 := hB9'.free
        go_simp
        have hE6 : Ext w3 ((w6.setCell ⟨g9, 0, none⟩ (.int .i64 y.reload)).setCell ⟨g9, 1, none⟩ (.slice (some ⟨gu, 0, none⟩) s.tasks.length cu)) := ((hX5.trans hx).set hg9 _).set hg9 _
        have hB9y := (hB9'.set 0 (.int .i64 y.reload)).set 1 (.slice (some ⟨gu, 0, none⟩) s.tasks.length cu)
        have hB10y := ((hB10.ext hx).far (p := ⟨g9, 0, none⟩) (Ne.symm hne9) (.int .i64 y.reload)).far (p := ⟨g9, 1, none⟩) (Ne.symm hne9) (.slice (some ⟨gu, 0, none⟩) s.tasks.length cu)
        have hPuy := ((hPu.ext hx).set hB9' 0 (.int .i64 y.reload)).set (hB9'.set 0 (.int .i64 y.reload)) 1 (.slice (some ⟨gu, 0, none⟩) s.tasks.length cu)
        have hPdy := ((hPd.ext hx).set hB9' 0 (.int .i64 y.reload)).set (hB9'.set 0 (.int .i64 y.reload)) 1 (.slice (some ⟨gu, 0, none⟩) s.tasks.length cu)
        simp only [List.setIfInBounds_toArray, List.set_cons_zero, List.set_cons_succ] at hB9y
        refine hK _ _ hE6 ?_
        clear hK K hx hB9' hc9 hf9 hB9 hB10 hPu hPd hX5
        generalize (w6.setCell _ _).setCell _ _ = w7 at hE6 hB9y hB10y hPuy hPdy ⊢
        refine wpX_want (i := 7) (by kernel_rfl) rfl (by simp [Region.wanted, yielded]) ?_
        intro w8 hx K hK
        have hB10' := hB10y.ext hx
        have hc10 := hB10'.cell
        have hf10 := hB10'.free
        go_simp
        have hE8 : Ext w3 ((w8.setCell ⟨g10, 0, none⟩ (.int .i64 y.reload)).setCell ⟨g10, 1, none⟩ (.slice (some ⟨gd, 0, none⟩) s.tasks.length cd)) := ((hE6.trans hx).set hg10 _).set hg10 _
        have hB10 := (hB10'.set 0 (.int .i64 y.reload)).set 1 (.slice (some ⟨gd, 0, none⟩) s.tasks.length cd)
        have hB9 := ((hB9y.ext hx).far (p := ⟨g10, 0, none⟩) hne9 (.int .i64 y.reload)).far (p := ⟨g10, 1, none⟩) hne9 (.slice (some ⟨gd, 0, none⟩) s.tasks.length cd)
        have hPu := ((hPuy.ext hx).set hB10' 0 (.int .i64 y.reload)).set (hB10'.set 0 (.int .i64 y.reload)) 1 (.slice (some ⟨gd, 0, none⟩) s.tasks.length cd)
        have hPd := ((hPdy.ext hx).set hB10' 0 (.int .i64 y.reload)).set (hB10'.set 0 (.int .i64 y.reload)) 1 (.slice (some ⟨gd, 0, none⟩) s.tasks.length cd)
        simp only [List.setIfInBounds_toArray, List.set_cons_zero, List.set_cons_succ] at hB10
        refine hK _ _ hE8 ?_
        clear hK K hx hB10' hc10 hf10 hB9y hB10y hPuy hPdy hE6
        generalize (w8.setCell _ _).setCell _ _ = w9 at hE8 hB9 hB10 hPu hPd ⊢
        refine wpX_done (by kernel_rfl) (fun w10 hx10 => ?_) _
        have hE := hE8.trans hx10
        have hB9 := hB9.ext hx10
        have hB10 := hB10.ext hx10
        have hPu := hPu.ext hx10
        have hPd := hPd.ext hx10
        clear hx10 hE8
        have hBS : BoxS w3 g10 #[.int .i64 y.reload, .slice (some ⟨gd, 0, none⟩) s.tasks.length cd] 24 w10 := ⟨hE, hB10⟩
        go_upto_region 9 with (fail)
        have hSA : ∀ a, BoxS w3 g10 #[.int .i64 y.reload, .slice (some ⟨gd, 0, none⟩) s.tasks.length cd] 24 a → ∀ j, a.cell? ⟨g10, j, none⟩ = #[.int .i64 y.reload, .slice (some ⟨gd, 0, none⟩) s.tasks.length cd][j]? := fun a h => h.at
        have hSB : ∀ a, BoxS w3 g10 #[.int .i64 y.reload, .slice (some ⟨gd, 0, none⟩) s.tasks.length cd] 24 a → ∀ j, a.cell? ⟨gx, j, none⟩ = #[.int .i64 y.reload, .slice (some ⟨bx, ox, none⟩) s.tasks.length cv][j]? := fun a h => hcx a h.1
        have hSC : ∀ a, BoxS w3 g10 #[.int .i64 y.reload, .slice (some ⟨gd, 0, none⟩) s.tasks.length cd] 24 a → a.cell? ⟨bx, ox + k * 9 + 5, none⟩ = some (.int .i64 th) := fun a h => x5 a h.1
        refine wp_region_mix (T := [16]) (S := BoxS w3 g10 #[.int .i64 y.reload, .slice (some ⟨gd, 0, none⟩) s.tasks.length cd] 24) (W := w10) (fun _ _ h hx => h.ext hx) (by kernel_rfl) (by kernel_rfl) (Ext.refl w10).drew hBS (fun _ _ h => h) (fun K hK => ?_)
        (repeat (first | (refine hX_skip ?_ ?_; (· rfl)) | (apply hX_and; (· rfl); (· rfl); (· rfl); (· rfl); (· rfl); simp only [Act.put, List.setIfInBounds_toArray, List.set_cons_zero, List.set_cons_succ]) | (apply hX_or; (· rfl); (· rfl); (· rfl); (· rfl); (· rfl); simp only [Act.put, List.setIfInBounds_toArray, List.set_cons_zero, List.set_cons_succ]) | (apply hX_off; (· rfl); (· rfl); (· rfl); simp only [Act.put, List.setIfInBounds_toArray, List.set_cons_zero, List.set_cons_succ]) | (apply hX_val; (· rfl); (· intro w hS; go_simp; with_reducible rfl); (· rfl); simp only [Act.put, List.setIfInBounds_toArray, List.set_cons_zero, List.set_cons_succ]) | (apply hX_call; (· rfl); (· rfl); (· intro w hS; go_simp; exact ⟨rfl, rfl⟩); (· intro w hS; fail); simp only [Act.put, List.setIfInBounds_toArray, List.set_cons_zero, List.set_cons_succ]) | (apply hX_if; (· rfl); (· rfl); (· rfl); (· intro hif w hS; go_simp; with_reducible rfl); simp only [Act.put, List.setIfInBounds_toArray, List.set_cons_zero, List.set_cons_succ]) | (apply hX_ifcall; (· rfl); (· rfl); (· rfl); (· intro hif w hS; go_simp; exact ⟨rfl, rfl⟩); (· intro hif w hS; fail); simp only [Act.put, List.setIfInBounds_toArray, List.set_cons_zero, List.set_cons_succ]))); refine hX_nil ?_
        refine hK _ ?_
        clear hK K
        have hnl : pd.length = s.tasks.length := by rw [← HZL.out, ← hpd, List.length_map]
        have hkp : k < pd.length := by omega
        obtain ⟨⟨t0, r0⟩, hp0⟩ : ∃ p, pd[k] = p := ⟨_, rfl⟩
        refine wpX_want (i := 16) (by kernel_rfl) rfl (by simp [Region.wanted, yielded]) ?_
        intro w11 hx K hK
        have hPx := hPd.ext hx
        have hUx := hPu.ext hx
        have hB9x := hB9.ext hx
        have hSx := hBS.ext hx
        obtain ⟨⟨u0, e1⟩, e2⟩ := hPx.cellS (i := k) (k := 5) (by simpa using hkp) (by decide)
        clear hPd hPu hB9 hBS
        go_simp
        have hzw : IntKind.i64.wrap (th + min b 9) = th + min b 9 := by
          rw [IntKind.wrap_i64]
          omega
        rw [hzw]
        obtain ⟨hz1, hz2⟩ : th ≤ min (k : Int) (th + min b 9) ∧ min (k : Int) (th + min b 9) ≤ k := by omega
        clear hzw
        generalize min (k : Int) (th + min b 9) = z at hz1 hz2 ⊢
        obtain ⟨hfz, hjz⟩ := hdown z hz1 hz2
        have hgd : w3.heap.size ≤ gd := (OwnL.lt hPx.1 gd rfl).1
        have hned : g10 ≠ gd := fun e => own_ne_blk hPx.1 hSx.2 (by decide) (by rw [e]; rfl)
        have hne9d : g9 ≠ gd := fun e => own_ne_blk hPx.1 hB9x (by decide) (by rw [e]; rfl)
        have hP12 := hPx.stored2 (i := k) (k := 5) (u := .int .i64 z) (t := thrT z t0) (t0 := t0) (r := r0) hkp (by decide) hp0 (by simp [encT, modedT, thrT]) rfl
        have hT12 := hP12.tasks
        rw [map_at hkp hp0, hpd] at hT12
        have hBS := hSx.set (i := k * 9 + 5) hgd hned (.int .i64 z)
        have hU12 := hUx.far hPx hud (k * 9 + 5) (.int .i64 z)
        have hB12 := hB9x.far (p := ⟨gd, k * 9 + 5, none⟩) hne9d (.int .i64 z)
        have hT12 : Tasks (w11.setCell ⟨gd, k * 9 + 5, none⟩ (.int .i64 z)) (.slice (some ⟨gd, 0, none⟩) s.tasks.length cd) (y.at k (thrT z)).tasks := hT12
        refine hK _ _ hBS ?_
        clear hK K hx e1 e2 hPx hUx hB9x hSx hP12 hpd hp0 hnl hkp hdown hz1 hz2 hSA hSB hSC hgd hned hne9d
        generalize w11.setCell _ _ = w12 at hBS hT12 hU12 hB12 ⊢
        refine wpX_done (by kernel_rfl) (fun w13 hx13 => ?_) _
        have hBS := hBS.ext hx13
        have hT13 := hT12.ext hx13
        have hU13 := hU12.ext hx13
        have hB13 := hB12.ext hx13
        clear hx13 hT12 hU12 hB12
        have hE13 := hBS.1
        have hc10 := hBS.2.cell
        have HJ := judge13_any (y.at k (thrT z)) _ w13 hT13 hfz
        generalize judgeS (y.at k (thrT z)) = d at HJ hjz
        obtain ⟨dh, dt, drs⟩ := d
        dsimp only at hjz
        subst hjz
        unfold vdV at HJ
        dsimp only at HJ
        go_wp2_with (fail)
        refine HJ.mono ?_
        rintro e w14 ⟨r14, rfl, _, hb14⟩
        have hX14 : Ext w13 w14 := ⟨hb14⟩
        have hE14 := hE13.trans hX14
        have hU14 := hU13.ext hX14
        have hB14 := hB13.ext hX14
        have hcx14 := hcx w14 hE14
        have x54 := x5 w14 hE14
        clear hc10 HJ hBS hT13 hU13 hB13 hX14 hb14
        rcases Decidable.em (th = 0) with ht | ht
        · subst ht
          go_wp2_with (fail)
          refine (HK.out _ (hX3.trans hE14)).mono ?_
          rintro e w15 ⟨rfl, hb15⟩
          go_wp2_with (fail)
          go_ret
          exact ⟨rfl, hL.trans (((hX3.trans hE14).call hb15).below.mono hL.size)⟩
        · obtain ⟨hfz, hjz⟩ := hup ht
          have hnl : pu.length = s.tasks.length := by rw [← HZL.out, ← hpu, List.length_map]
          have hkp : k < pu.length := by omega
          obtain ⟨⟨t0, r0⟩, hp0⟩ : ∃ p, pu[k] = p := ⟨_, rfl⟩
          have ht0 : t0.theta = th := by
            have h1 : (pu.map (·.1))[k]? = y.tasks[k]? := by rw [hpu]
            rw [List.getElem?_eq_getElem (by rw [List.length_map]; exact hkp), List.getElem?_eq_getElem (by rw [HZL.out]; exact hk)] at h1
            have h2 := Option.some.inj h1
            rw [List.getElem_map, hp0] at h2
            rw [← HTE.out (by rw [HZL.out]; exact hk), ← h2]
          have hcu0 := hU14.at (i := k) (k := 5) hkp (by decide)
          obtain ⟨_, hfu⟩ := hU14.cellS (i := k) (k := 5) hkp (by decide)
          have hcu : w14.cell? ⟨gu, k * 9 + 5, none⟩ = some (.int .i64 th) := by
            rw [hcu0, hp0, ← ht0]
            rfl
          clear hcu0
          have hc9 := hB14.cell
          have hzw : IntKind.i64.wrap (th - 1) = th - 1 := by
            rw [IntKind.wrap_i64]
            omega
          have hgu : w3.heap.size ≤ gu := (OwnL.lt hU14.1 gu rfl).1
          have hneu : g9 ≠ gu := fun e => own_ne_blk hU14.1 hB14 (by decide) (by rw [e]; rfl)
          have hP15 := hU14.stored2 (i := k) (k := 5) (u := .int .i64 (th - 1)) (t := thrT (th - 1) t0) (t0 := t0) (r := r0) hkp (by decide) hp0 (by simp [encT, modedT, thrT]) rfl
          have hT15 := hP15.tasks
          rw [map_at hkp hp0, hpu] at hT15
          have hT15 : Tasks (w14.setCell ⟨gu, k * 9 + 5, none⟩ (.int .i64 (th - 1))) (.slice (some ⟨gu, 0, none⟩) s.tasks.length cu) (y.at k (thrT (th - 1))).tasks := hT15
          have hE15 := hE14.set (i := k * 9 + 5) hgu (.int .i64 (th - 1))
          have hB15 := hB14.far (p := ⟨gu, k * 9 + 5, none⟩) hneu (.int .i64 (th - 1))
          have HNL := Lib.hid hnl
          clear hnl hp0 hpu hkp ht0 hP15 hneu hgu hU14 hB14 hud
          go_upto_region 15 with (fail)
          clear hcx14 x54 hcu hfu hc9 hzw
          generalize w14.setCell _ _ = w15 at hT15 hE15 hB15 ⊢
          have hc9 := hB15.cell
          have HJ := judge13_any (y.at k (thrT (th - 1))) _ w15 hT15 hfz
          generalize judgeS (y.at k (thrT (th - 1))) = d at HJ hjz
          obtain ⟨dh, dt, drs⟩ := d
          dsimp only at hjz
          unfold vdV at HJ
          dsimp only at HJ
          go_wp2_with (fail)
          refine HJ.mono ?_
          rintro e w16 ⟨r16, rfl, _, hb16⟩
          have hE16 := hE15.call hb16
          clear HJ hc9
          go_wp2_with (fail)
          refine (HK.out _ (hX3.trans hE16)).mono ?_
          rintro e w17 ⟨rfl, hb17⟩
          go_wp2_with (fail)
          go_ret
          exact ⟨by rw [show (dh != 1) = true by simpa using hjz]; rfl, hL.trans (((hX3.trans hE16).call hb17).below.mono hL.size)⟩
      · rintro n l a w5 ⟨b1, b3, b4, b5, s9, s10, s50, s52, hn, rfl, rfl, hGt⟩
        refine ⟨List.isEmpty_eq_false_iff.1 ?_, fun i hi w6 hx6 => ?_⟩
        · cases b1 <;> cases b3 <;> cases b4 <;> cases b5 <;> first | kernel_rfl | (exfalso; revert hn; simp [cnt8]; done)
        have hGx := hGt.grow hx6
        have hX6 := hGx.ext
        have hq : chk8 b1 b3 b4 b5 i = true := by
          refine List.all_eq_true.1 ?_ i hi
          cases b1 <;> cases b3 <;> cases b4 <;> cases b5 <;> kernel_rfl
        clear hi hGt hx6
        simp only [chk8, Bool.or_eq_true, Bool.and_eq_true, beq_iff_eq, Bool.not_eq_true'] at hq
        subst ha
        rcases hq with (((⟨rfl, hb⟩ | ⟨⟨rfl, hb⟩, hb1⟩) | ⟨rfl, hb⟩) | ⟨rfl, hb⟩) | ⟨⟨⟨rfl, rfl⟩, rfl⟩, rfl⟩
        · subst hb
          refine wpOp_one (by rfl) rfl fun K hK => ?_
          simp only [Act.put, List.setIfInBounds_toArray, List.set_cons_zero, List.set_cons_succ]
          go_simp
          refine (HU.out _ w6 (hT3.ext hX6)).mono ?_
          rintro e w7 ⟨v7, ps7, rfl, hP7, hps7, hb7⟩
          have hX7 : Ext w6 w7 := ⟨hb7⟩
          refine hK _ _ (hX6.trans hX7) ⟨true, b3, b4, b5, s9, s10, setV y v7, s52, (by revert hn; simp [cnt8] <;> omega), rfl, (by simp only [Act.put, List.setIfInBounds_toArray, List.set_cons_zero, List.set_cons_succ]; try rfl), ?_⟩
          have hGy := hGx.grow hX7
          refine ⟨hGy.ext, fun _ => rfl, hGy.i9, hGy.i10, hGy.ne, fun _ => ?_, fun h3 => absurd (hGy.seq h3) (by decide)⟩
          · obtain ⟨g, c7, rfl, hg1, hg2⟩ := hP7.head (fun e => HN0.out (by rw [← hps7, e]; rfl))
            have hl7 : ps7.length = s.tasks.length := by rw [← HZL.out, ← hps7, List.length_map]
            rw [hl7] at hP7 ⊢
            exact ⟨g, c7, ps7, rfl, hP7.lower hX6.size, hps7, hg2⟩
        · subst hb
          obtain ⟨gu, cu, pu, rfl, hPu, hpu, hgu⟩ := hGx.up hb1
          subst hb1
          refine wpOp_one (by rfl) rfl fun K hK => ?_
          simp only [Act.put, List.setIfInBounds_toArray, List.set_cons_zero, List.set_cons_succ]
          go_simp
          refine (HU.out _ w6 (hT3.ext hX6)).mono ?_
          rintro e w7 ⟨v7, ps7, rfl, hP7, hps7, hb7⟩
          have hX7 : Ext w6 w7 := ⟨hb7⟩
          refine hK _ _ (hX6.trans hX7) ⟨true, true, b4, b5, s9, s10, setV y (.slice (some ⟨gu, 0, none⟩) s.tasks.length cu), setV y v7, (by revert hn; simp [cnt8] <;> omega), rfl, (by simp only [Act.put, List.setIfInBounds_toArray, List.set_cons_zero, List.set_cons_succ]; try rfl), ?_⟩
          have hGy := hGx.grow hX7
          refine ⟨hGy.ext, fun _ => rfl, hGy.i9, hGy.i10, hGy.ne, hGy.up, fun _ => ?_⟩
          obtain ⟨g, c7, rfl, hg1, hg2⟩ := hP7.head (fun e => HN0.out (by rw [← hps7, e]; rfl))
          have hl7 : ps7.length = s.tasks.length := by rw [← HZL.out, ← hps7, List.length_map]
          rw [hl7] at hP7 ⊢
          refine ⟨g, c7, ps7, rfl, hP7.lower hX6.size, hps7, fun g' c' e => ?_⟩
          have : gu = g' := by
            simp only [setV] at e
            injection e with e
            simp at e
            exact e.1
          omega
        · subst hb
          refine wpOp_one (by rfl) rfl fun K hK => ?_
          simp only [Act.put, List.setIfInBounds_toArray, List.set_cons_zero, List.set_cons_succ]
          go_simp
          have hX7 := (Ext.refl w6).alloc (.cells #[.int .i64 0, .slice none 0 0] 24)
          refine hK _ _ (hX6.trans hX7) ⟨b1, b3, true, b5, .pointer (some ⟨w6.heap.size, 0, none⟩), s10, s50, s52, (by revert hn; simp [cnt8] <;> omega), rfl, (by simp only [Act.put, List.setIfInBounds_toArray, List.set_cons_zero, List.set_cons_succ]; try rfl), ?_⟩
          have hGy := hGx.grow hX7
          refine ⟨hGy.ext, hGy.seq, fun _ => ⟨_, rfl, Blk.new _ _ _, hX6.size⟩, hGy.i10, fun _ h5 e => ?_, hGy.up, hGy.down⟩
          obtain ⟨g, e2, hB2, _⟩ := hGx.i10 h5
          rw [e2] at e
          have := hB2.lt
          injection e with e
          injection e with e
          injection e with e
          omega
        · subst hb
          refine wpOp_one (by rfl) rfl fun K hK => ?_
          simp only [Act.put, List.setIfInBounds_toArray, List.set_cons_zero, List.set_cons_succ]
          go_simp
          have hX7 := (Ext.refl w6).alloc (.cells #[.int .i64 0, .slice none 0 0] 24)
          refine hK _ _ (hX6.trans hX7) ⟨b1, b3, b4, true, s9, .pointer (some ⟨w6.heap.size, 0, none⟩), s50, s52, (by revert hn; simp [cnt8] <;> omega), rfl, (by simp only [Act.put, List.setIfInBounds_toArray, List.set_cons_zero, List.set_cons_succ]; try rfl), ?_⟩
          have hGy := hGx.grow hX7
          refine ⟨hGy.ext, hGy.seq, hGy.i9, fun _ => ⟨_, rfl, Blk.new _ _ _, hX6.size⟩, fun h4 _ e => ?_, hGy.up, hGy.down⟩
          obtain ⟨g, e2, hB2, _⟩ := hGx.i9 h4
          rw [e2] at e
          have := hB2.lt
          injection e with e
          injection e with e
          injection e with e
          omega
        · exfalso; revert hn; simp [cnt8]
      · subst ha
        simp only [Act.put, List.setIfInBounds_toArray, List.set_cons_zero, List.set_cons_succ]
  · have hd : (!may14 s || decide (i < 0) || decide ((s.tasks.length : Int) ≤ i) || decide (b < 0)) = true := by
      cases hm : may14 s with
      | false => simp
      | true =>
        rw [hm] at hin
        simp only [true_and] at hin
        simp
        omega
    first | rw [hd] | trace_state
    go_wp2_with (fail)
    go_ret
    exact ⟨rfl, hL.trans (hX1.below.mono hL.size)⟩
end Go.Proofs.YtknfdjnbndfboabGreatDoor
