/- SpreadMore. -/
import Derived.Test.YtknfdjnbndfboaaGreatDoorProg
import Derived.Test.YtknfdjnbndfboaaGreatDoorBase
import Derived.Test.YtknfdjnbndfboaaGreatDoorHeldX
import Derived.Test.YtknfdjnbndfboaaGreatDoorApp
import Derived.Test.YtknfdjnbndfboaaGreatDoorTsk1
import Derived.Test.YtknfdjnbndfboaaGreatDoorTsk3
import Derived.Test.YtknfdjnbndfboaaGreatDoorTsk4
import Derived.Test.YtknfdjnbndfboaaGreatDoorTskZ
import Derived.Test.YtknfdjnbndfboaaGreatDoorTskP
import Derived.Test.YtknfdjnbndfboaaGreatDoorTskN
import Derived.Test.YtknfdjnbndfboaaGreatDoorTskA
import Derived.Test.YtknfdjnbndfboaaGreatDoorTskO
import Derived.Test.YtknfdjnbndfboaaGreatDoorSetO
import Derived.Test.YtknfdjnbndfboaaGreatDoorRespS
import Derived.Test.YtknfdjnbndfboaaGreatDoorResp
import Derived.Test.YtknfdjnbndfboaaGreatDoorTolA
import Derived.Test.YtknfdjnbndfboaaGreatDoorTolP
import Derived.Test.YtknfdjnbndfboaaGreatDoorAdm
import Derived.Test.YtknfdjnbndfboaaGreatDoorRef9
import Derived.Test.YtknfdjnbndfboaaGreatDoorRefJ
import Derived.Test.YtknfdjnbndfboaaGreatDoorSprO
import Derived.Test.YtknfdjnbndfboaaGreatDoorSprP
import Derived.Test.YtknfdjnbndfboaaGreatDoorSprL
import Derived.Test.YtknfdjnbndfboaaGreatDoorLaw15k
import Derived.Test.YtknfdjnbndfboaaGreatDoorLaw15a
import Derived.Deep.Cut
import Derived.Lib.Hide
namespace Go.Proofs.YtknfdjnbndfboaaGreatDoor
open Go.RowKit
attribute [local go_sem] setCell_twice ByteArray.toList_eq str_list Ext.alloc Ext.drew vdHow
set_option linter.unusedSimpArgs false
set_option maxRecDepth 100000
set_option maxHeartbeats 6400000
attribute [local irreducible] popN Calls

theorem more_pack {s : TSet} (hf : s.fit) {qs : List Int} (ho : spreadQ s = some qs) (hD : ∀ t ∈ s.tasks, t.D ≤ 300) (k : Nat) (hk1 : 1 ≤ k) (hk : k < s.tasks.length) :
    ∃ (y : TSet) (q : Int), spreadS s = y ∧ allB y = true ∧ y.fit ∧ y.tasks.length = s.tasks.length ∧ (∀ h : k < y.tasks.length, y.tasks[k].q = q) ∧ (0 ≤ q ∧ q ≤ 10000) ∧ allB (y.at k moreQ) = true ∧ (y.at k moreQ).fit ∧
      ∀ h : k < (y.at k moreQ).tasks.length, ((judgeS (y.at k moreQ)).how = 1 ↔ wholeZ (y.at k moreQ) (y.at k moreQ).tasks[k] < q + 1) := by
  obtain ⟨bs, hS⟩ := Spread.of hf ho
  have hkq : k < qs.length := by rw [hS.qlen]; exact hk
  obtain ⟨h1, h2, h3⟩ := hS.more hf hD k hk1 hkq
  have hzl := zipT_len floatT s qs hS.qlen
  rw [← zipT_more s qs hS.qlen k hkq] at h1 h2 h3
  refine ⟨zipT floatT s qs, qs[k], spreadS_some ho, hS.all_x, hS.fit_x hf, hzl, fun h => ?_, hS.qrange k hkq, h1, h2, fun h => ?_⟩
  · rw [zipT_get floatT s qs k h hk hkq]
    rfl
  · rw [h3]
    have hwz : wholeZ ((zipT floatT s qs).at k moreQ) ((zipT floatT s qs).at k moreQ).tasks[k] = wholeZ s s.tasks[k] := by
      rw [TSet.at_get, if_pos rfl, zipT_get floatT s qs k _ hk hkq]
      rfl
    rw [hwz]
theorem spreadMore_walk (v : Value) (s : TSet) (i : Int) (w : World) (hv : ∃ x, v = setV s x ∧ Tasks w x s.tasks ∧ s.fit) (_ : (Lit.int .i64 i).wf = true) (hG : GOK w) :
    Calls Tryz.prog 7 #[v, .int .i64 i] w fun e w' => e = .returned (.bool true) ∧ Below w.heap.size w w' := by
  obtain ⟨x, rfl, hx, hf⟩ := hv
  have l1 := hx.len
  have hg := hf.good
  have hx0 := hx
  obtain ⟨A, c, rfl, hle, hcm, _⟩ := hx0
  unfold maxLen at hcm
  go_enter Tryz.func7, Tryz.ntmps7
  unfold setV
  go_upto_region 1 with (fail)
  have hL : Below w.heap.size w (w.alloc (.cells #[.int .i64 s.reload, (.slice A s.tasks.length c)] 24)) := (by repeat (first | exact Below.refl _ _ | assumption | refine Below.drew ?_ | refine Below.alloc ?_ (by first | (simp; done) | (simp; omega) | omega) _ | refine Below.setCell ?_ (by first | (simp; done) | (simp; omega) | omega) _)); have hB : Blk (w.alloc (.cells #[.int .i64 s.reload, (.slice A s.tasks.length c)] 24)) w.heap.size #[.int .i64 s.reload, (.slice A s.tasks.length c)] 24 := Blk.new _ _ _
  have hr := hx.ext ⟨hL⟩
  have hG0 := hG.below hL
  generalize w.alloc _ = W at hL hB hr hG0 ⊢
  have hc := hB.under
  have HK := Lib.hid fun (W' : World) (h : Ext W W') => known15_any W' (hG0.below h.below)
  refine wp_region_all' (S := Ext W) (Ext.refl W) (fun K hK => ?_); (repeat (first | (apply hO_and; (· rfl); (· rfl); (· rfl); (· rfl); simp only [Act.put, List.setIfInBounds_toArray, List.set_cons_zero, List.set_cons_succ]) | (apply hO_or; (· rfl); (· rfl); (· rfl); (· rfl); simp only [Act.put, List.setIfInBounds_toArray, List.set_cons_zero, List.set_cons_succ]) | (apply hO_off; (· rfl); (· rfl); simp only [Act.put, List.setIfInBounds_toArray, List.set_cons_zero, List.set_cons_succ]) | (apply hO_val; (· intro w hS; go_simp; with_reducible rfl); (· rfl); simp only [Act.put, List.setIfInBounds_toArray, List.set_cons_zero, List.set_cons_succ]) | (apply hO_call; (· rfl); (· intro w hS; go_simp; exact ⟨rfl, rfl⟩); (· intro w hS; exact callX hS (may15_any s _ _ (hr.ext hS) hg)); simp only [Act.put, List.setIfInBounds_toArray, List.set_cons_zero, List.set_cons_succ]) | (apply hO_if; (· rfl); (· rfl); (· intro hif w hS; go_simp; with_reducible rfl); simp only [Act.put, List.setIfInBounds_toArray, List.set_cons_zero, List.set_cons_succ]) | (apply hO_ifcall; (· rfl); (· rfl); (· intro hif w hS; go_simp; exact ⟨rfl, rfl⟩); (· intro hif w hS; exact callX hS (may15_any s _ _ (hr.ext hS) hg)); simp only [Act.put, List.setIfInBounds_toArray, List.set_cons_zero, List.set_cons_succ]))); refine hO_nil ?_; refine forget_range 7 13 (Nat.le_of_ble_eq_true rfl) (fun junk => ?_); simp only [List.take_succ_cons, List.take_zero, List.drop_succ_cons, List.drop_zero, List.cons_append, List.nil_append, fillF, Nat.reduceAdd]; refine hK _ ?_; clear hK K
  intro w1 hX1
  by_cases hin : may14 s = true ∧ 1 ≤ i ∧ i < s.tasks.length
  · obtain ⟨hm, h0, h1⟩ := hin
    have hd : (!may14 s || decide (i < 1) || decide ((s.tasks.length : Int) ≤ i)) = false := by rw [hm]; simp; omega
    rw [hd]
    clear hd
    obtain ⟨k, rfl⟩ := Int.eq_ofNat_of_zero_le (show 0 ≤ i by omega)
    have hk : k < s.tasks.length := by omega
    have hDD := fun t ht => (may14_D hm t ht).2
    have hP := spreadPut_any s (.slice A s.tasks.length c) w1 (hr.ext hX1) hf (hG0.below hX1.below)
    have hc1 := hc w1 hX1
    clear hm
    cases ho : spreadQ s with
    | none =>
      rw [spreadS_none ho, ho] at hP
      have hP : Calls Tryz.prog 19 #[setV s (.slice A s.tasks.length c)] w1 fun e w' => ∃ v' ps, e = .returned (.tuple #[setV ⟨0, []⟩ v', .bool false]) ∧ PutOwn w' w1.heap.size v' ps ∧ ps.map (·.1) = [] ∧ Below w1.heap.size w1 w' := hP
      clear ho
      go_wp2_with (fail)
      refine hP.mono ?_
      rintro e w2 ⟨v2, ps, rfl, hP2, hps, hb2⟩
      have hX2 := hX1.call hb2
      obtain ⟨Av, cv, rfl, _, _⟩ := hP2.1.form
      unfold setV
      dsimp only
      clear hc1
      go_wp2_with (fail)
      have hX3 := hX2.alloc (.cells #[.int .i64 0, .slice Av ps.length cv] 24)
      refine (HK.out _ hX3).mono ?_
      rintro e w4 ⟨rfl, hb4⟩
      go_wp2_with (fail)
      go_ret
      exact ⟨rfl, hL.trans ((hX3.call hb4).below.mono hL.size)⟩
    | some qs =>
      obtain ⟨y, q, hsy, hall, hfx, hzl, hqe, hqr, hall2, hf2, hmore⟩ := more_pack hf ho hDD k (by omega) hk
      rw [hsy, ho] at hP
      have hs2 := fine_of hall2 hf2
      clear hsy ho
      have hP : Calls Tryz.prog 19 #[setV s (.slice A s.tasks.length c)] w1 fun e w' => ∃ v' ps, e = .returned (.tuple #[setV y v', .bool true]) ∧ PutOwn w' w1.heap.size v' ps ∧ ps.map (·.1) = y.tasks ∧ Below w1.heap.size w1 w' := hP
      have HA := Lib.hid fun (u : Value) (W' : World) (hT : Tasks W' u y.tasks) => allR_any y u W' hT hfx.good
      rw [hall] at HA
      have hky : k < (y.at k moreQ).tasks.length := by rw [TSet.at_len, hzl]; exact hk
      have HJ := Lib.hid fun (u : Value) (W' : World) (hT : Tasks W' u (y.at k moreQ).tasks) => judge13_any (y.at k moreQ) u W' hT hs2
      have HW := Lib.hid fun (u : Value) (W' : World) (hT : Tasks W' u (y.at k moreQ).tasks) => whole9_any (y.at k moreQ) u k W' hT hs2 hky
      have hmore := hmore hky
      generalize wholeZ (y.at k moreQ) ((y.at k moreQ).tasks[k]'hky) = wz at HW hmore
      generalize judgeS (y.at k moreQ) = d at HJ hmore
      obtain ⟨dh, dt, drs⟩ := d
      unfold vdV at HJ
      dsimp only at HJ hmore
      have HM := Lib.hid hmore
      clear hall hmore hall2 hs2 hf2 hfx
      go_wp2_with (fail)
      refine hP.mono ?_
      rintro e w2 ⟨v2, ps, rfl, hP2, hps, hb2⟩
      have hX2 := hX1.call hb2
      have hnl : ps.length = s.tasks.length := by rw [← hzl, ← hps, List.length_map]
      obtain ⟨g, c2, rfl, hg1, hg2⟩ := hP2.head (by intro e; rw [e] at hnl; simp at hnl; omega)
      have hkp : k < ps.length := by omega
      obtain ⟨⟨t0, r0⟩, hp0⟩ : ∃ p, ps[k] = p := ⟨_, rfl⟩
      have hq0 : t0.q = q := by
        have : (ps.map (·.1))[k]? = y.tasks[k]? := by rw [hps]
        have h2 : (ps[k]).1 = y.tasks[k]'(by omega) := by simpa [hkp, show k < y.tasks.length by omega] using this
        rw [hp0] at h2
        rw [← hqe (by omega), ← h2]
      rw [hnl] at hP2 ⊢
      have HNL := Lib.hid hnl
      have HPS := Lib.hid hps
      have HZL := Lib.hid hzl
      clear hc1 hnl hps hqe hzl
      unfold setV
      dsimp only
      go_upto_region 4 with (fail)
      have hE3 := (Ext.mk hb2).alloc (.cells #[.int .i64 y.reload, .slice (some ⟨g, 0, none⟩) s.tasks.length c2] 24)
      have hBx : Blk (w2.alloc (.cells #[.int .i64 y.reload, .slice (some ⟨g, 0, none⟩) s.tasks.length c2] 24)) w2.heap.size #[.int .i64 y.reload, .slice (some ⟨g, 0, none⟩) s.tasks.length c2] 24 := Blk.new _ _ _
      have hP3 := hP2.ext ((Ext.refl w2).alloc (.cells #[.int .i64 y.reload, .slice (some ⟨g, 0, none⟩) s.tasks.length c2] 24))
      have hne : w2.heap.size ≠ g := Nat.ne_of_gt hg2
      clear hP2
      generalize w2.heap.size = gx at hBx hne ⊢
      generalize w2.alloc _ = w3 at hE3 hBx hP3 ⊢
      have hX3 := hX1.trans hE3
      have hT3 : Tasks w3 (.slice (some ⟨g, 0, none⟩) s.tasks.length c2) y.tasks := HPS.out ▸ hP3.tasks
      have hcx := hBx.under
      have hc3 := fun W' (h : Ext w3 W') => hc W' (hX3.trans h)
      go_upto_region 6 with (fail)
      refine wp_region_all' (S := Ext w3) (Ext.refl w3) (fun K hK => ?_); (repeat (first | (apply hO_and; (· rfl); (· rfl); (· rfl); (· rfl); simp only [Act.put, List.setIfInBounds_toArray, List.set_cons_zero, List.set_cons_succ]) | (apply hO_or; (· rfl); (· rfl); (· rfl); (· rfl); simp only [Act.put, List.setIfInBounds_toArray, List.set_cons_zero, List.set_cons_succ]) | (apply hO_off; (· rfl); (· rfl); simp only [Act.put, List.setIfInBounds_toArray, List.set_cons_zero, List.set_cons_succ]) | (apply hO_val; (· intro w hS; go_simp; with_reducible rfl); (· rfl); simp only [Act.put, List.setIfInBounds_toArray, List.set_cons_zero, List.set_cons_succ]) | (apply hO_call; (· rfl); (· intro w hS; go_simp; exact ⟨rfl, rfl⟩); (· intro w hS; exact callX hS (HA.out _ _ (hT3.ext hS))); simp only [Act.put, List.setIfInBounds_toArray, List.set_cons_zero, List.set_cons_succ]) | (apply hO_if; (· rfl); (· rfl); (· intro hif w hS; go_simp; with_reducible rfl); simp only [Act.put, List.setIfInBounds_toArray, List.set_cons_zero, List.set_cons_succ]) | (apply hO_ifcall; (· rfl); (· rfl); (· intro hif w hS; go_simp; exact ⟨rfl, rfl⟩); (· intro hif w hS; exact callX hS (HA.out _ _ (hT3.ext hS))); simp only [Act.put, List.setIfInBounds_toArray, List.set_cons_zero, List.set_cons_succ]))); refine hO_nil ?_; refine forget_range 29 11 (Nat.le_of_ble_eq_true rfl) (fun junk => ?_); simp only [List.take_succ_cons, List.take_zero, List.drop_succ_cons, List.drop_zero, List.cons_append, List.nil_append, fillF, Nat.reduceAdd]; refine hK _ ?_; clear hK K
      intro w4 hX4
      have hP4 := hP3.ext hX4
      have hB4 := hBx.ext hX4
      obtain ⟨⟨u0, e1⟩, e2⟩ := hP4.cellS (i := k) (k := 4) hkp (by decide)
      have e1' : w4.cell? ⟨g, k * 9 + 4, none⟩ = some (.int .i64 q) := by
        have := hP4.at (i := k) (k := 4) hkp (by decide)
        rw [this, hp0, ← hq0]
        rfl
      clear e1
      have hcx4 := hB4.cell
      go_upto_region 9 with (fail)
      have hP5 := hP4.stored2 (i := k) (k := 4) (u := .int .i64 (q + 1)) (t := moreQ t0) (t0 := t0) (r := r0) hkp (by decide) hp0 (by simp [encT, moreQ, modedT, hq0]) rfl
      have hT5 := hP5.tasks
      rw [map_at hkp hp0, HPS.out] at hT5
      have hX5 : Ext W (w4.setCell ⟨g, k * 9 + 4, none⟩ (.int .i64 (q + 1))) := hX1.trans ((hE3.trans hX4).set hg1 _)
      have hB5 := hB4.far (p := ⟨g, k * 9 + 4, none⟩) hne (.int .i64 (q + 1))
      have hq5 : (w4.setCell ⟨g, k * 9 + 4, none⟩ (.int .i64 (q + 1))).cell? ⟨g, k * 9 + 4, none⟩ = some (.int .i64 (q + 1)) := by
        have := hP5.at (i := k) (k := 4) (by simpa using hkp) (by decide)
        rw [this]
        simp [encT, moreQ, modedT, hq0]
      have hT5 : Tasks (w4.setCell ⟨g, k * 9 + 4, none⟩ (.int .i64 (q + 1))) (.slice (some ⟨g, 0, none⟩) s.tasks.length c2) (y.at k moreQ).tasks := hT5
      clear hP5 hP4 hB4 e1' e2 hcx4 hc3 hcx hT3 hP3 hBx HA hP
      generalize w4.setCell _ _ = w5 at hX5 hB5 hq5 hT5 ⊢
      have hcx5 := hB5.under
      have hq5u : ∀ w', Ext w5 w' → w'.cell? ⟨g, k * 9 + 4, none⟩ = some (.int .i64 (q + 1)) := fun w' h => h.cell hq5
      have HW5 := Lib.hid fun (W' : World) (h : Ext w5 W') => HW.out _ W' (hT5.ext h)
      clear hq5
      have hm := HM.out
      rcases Decidable.em (dh = 1) with hh | hh
      · have hw := hm.1 hh
        subst hh
        clear hm HM
        refine wp_region_mix (T := [1, 2, 3, 14, 15, 16, 17, 18]) (S := Ext w5) (W := w5) (Ext.mono w5) (by kernel_rfl) (by kernel_rfl) (Ext.refl w5).drew (Ext.refl w5) (fun _ _ h => h) (fun K hK => ?_)
        (repeat (first | (refine hX_skip ?_ ?_; (· rfl)) | (apply hX_and; (· rfl); (· rfl); (· rfl); (· rfl); (· rfl); simp only [Act.put, List.setIfInBounds_toArray, List.set_cons_zero, List.set_cons_succ]) | (apply hX_or; (· rfl); (· rfl); (· rfl); (· rfl); (· rfl); simp only [Act.put, List.setIfInBounds_toArray, List.set_cons_zero, List.set_cons_succ]) | (apply hX_off; (· rfl); (· rfl); (· rfl); simp only [Act.put, List.setIfInBounds_toArray, List.set_cons_zero, List.set_cons_succ]) | (apply hX_val; (· rfl); (· intro w hS; go_simp; with_reducible rfl); (· rfl); simp only [Act.put, List.setIfInBounds_toArray, List.set_cons_zero, List.set_cons_succ]) | (apply hX_call; (· rfl); (· rfl); (· intro w hS; go_simp; exact ⟨rfl, rfl⟩); (· intro w hS; exact callXX (HW5.out _ hS)); simp only [Act.put, List.setIfInBounds_toArray, List.set_cons_zero, List.set_cons_succ]) | (apply hX_if; (· rfl); (· rfl); (· rfl); (· intro hif w hS; go_simp; with_reducible rfl); simp only [Act.put, List.setIfInBounds_toArray, List.set_cons_zero, List.set_cons_succ]) | (apply hX_ifcall; (· rfl); (· rfl); (· rfl); (· intro hif w hS; go_simp; exact ⟨rfl, rfl⟩); (· intro hif w hS; exact callXX (HW5.out _ hS)); simp only [Act.put, List.setIfInBounds_toArray, List.set_cons_zero, List.set_cons_succ]))); refine hX_nil ?_
        refine hK _ ?_
        clear hK K
        have hXW := Ext.refl w5
        refine wpX_want (i := 1) (by kernel_rfl) rfl (by simp [Region.wanted, yielded]) ?_; intro w' hx K hK; go_simp
        refine (HJ.out _ w' (hT5.ext hx)).mono ?_
        rintro e w6 ⟨r6, rfl, _, hb6⟩
        have hE6 : Ext w5 w6 := hx.trans ⟨hb6⟩
        refine hK _ _ hE6 ?_
        clear hK K hx hb6
        refine wpX_want (i := 2) (by kernel_rfl) rfl (by simp [Region.wanted, yielded]) ?_; intro w' hx K hK; go_simp
        have hE7 := hE6.trans hx
        refine hK _ _ hE7 ?_
        clear hK K hx hE6
        refine wpX_want (i := 3) (by kernel_rfl) rfl (by simp [Region.wanted, yielded]) ?_; intro w' hx K hK; go_simp
        have hE8 := hE7.trans hx
        refine hK _ _ hE8 ?_
        clear hK K hx hE7
        refine wpX_want (i := 14) (by kernel_rfl) rfl (by simp [Region.wanted, yielded]) ?_; intro w' hx K hK; go_simp
        have hE9 := hE8.trans hx
        refine hK _ _ hE9 ?_
        clear hK K hx hE8
        refine wpX_want (i := 15) (by kernel_rfl) rfl (by simp [Region.wanted, yielded]) ?_; intro w' hx K hK; go_simp
        have hE10 := hE9.trans hx
        refine hK _ _ hE10 ?_
        clear hK K hx hE9
        refine wpX_want (i := 16) (by kernel_rfl) rfl (by first | (simp [Region.wanted, yielded]; done) | (simp [Region.wanted, yielded]; omega) | (simp [Region.wanted, yielded, hh, show q + 1 ≤ wz by omega]; done) | (simp [Region.wanted, yielded, hh]; trace_state; omega)) ?_
        intro w' hx K hK
        go_simp
        have hE11 := hE10.trans hx
        refine (HK.out _ (hX5.trans hE11)).mono ?_
        rintro e w7 ⟨rfl, hb7⟩
        have hE12 := hE11.call hb7
        refine hK _ _ hE12 ?_
        clear hK K hx hE10 hE11 hb7
        refine wpX_want (i := 17) (by kernel_rfl) rfl (by simp [Region.wanted, yielded]) ?_; intro w' hx K hK; go_simp
        have hE13 := hE12.trans hx
        refine hK _ _ hE13 ?_
        clear hK K hx hE12
        refine wpX_want (i := 18) (by kernel_rfl) rfl (by simp [Region.wanted, yielded]) ?_; intro w' hx K hK; go_simp
        have hE14 := hE13.trans hx
        refine hK _ _ hE14 ?_
        clear hK K hx hE13
        refine wpX_done (by kernel_rfl) (fun w8 hx8 => ?_) _
        go_wp2_with (fail)
        go_ret
        exact ⟨by first | rfl | (simp; done) | (simp; omega), hL.trans ((hX5.trans (hE14.trans hx8)).below.mono hL.size)⟩
      · have hw : ¬ wz < q + 1 := fun h => hh (hm.2 h)
        clear hm HM
        refine wp_region_mix (T := [1, 2, 3, 14, 15, 16, 17, 18]) (S := Ext w5) (W := w5) (Ext.mono w5) (by kernel_rfl) (by kernel_rfl) (Ext.refl w5).drew (Ext.refl w5) (fun _ _ h => h) (fun K hK => ?_)
        (repeat (first | (refine hX_skip ?_ ?_; (· rfl)) | (apply hX_and; (· rfl); (· rfl); (· rfl); (· rfl); (· rfl); simp only [Act.put, List.setIfInBounds_toArray, List.set_cons_zero, List.set_cons_succ]) | (apply hX_or; (· rfl); (· rfl); (· rfl); (· rfl); (· rfl); simp only [Act.put, List.setIfInBounds_toArray, List.set_cons_zero, List.set_cons_succ]) | (apply hX_off; (· rfl); (· rfl); (· rfl); simp only [Act.put, List.setIfInBounds_toArray, List.set_cons_zero, List.set_cons_succ]) | (apply hX_val; (· rfl); (· intro w hS; go_simp; with_reducible rfl); (· rfl); simp only [Act.put, List.setIfInBounds_toArray, List.set_cons_zero, List.set_cons_succ]) | (apply hX_call; (· rfl); (· rfl); (· intro w hS; go_simp; exact ⟨rfl, rfl⟩); (· intro w hS; exact callXX (HW5.out _ hS)); simp only [Act.put, List.setIfInBounds_toArray, List.set_cons_zero, List.set_cons_succ]) | (apply hX_if; (· rfl); (· rfl); (· rfl); (· intro hif w hS; go_simp; with_reducible rfl); simp only [Act.put, List.setIfInBounds_toArray, List.set_cons_zero, List.set_cons_succ]) | (apply hX_ifcall; (· rfl); (· rfl); (· rfl); (· intro hif w hS; go_simp; exact ⟨rfl, rfl⟩); (· intro hif w hS; exact callXX (HW5.out _ hS)); simp only [Act.put, List.setIfInBounds_toArray, List.set_cons_zero, List.set_cons_succ]))); refine hX_nil ?_
        refine hK _ ?_
        clear hK K
        have hXW := Ext.refl w5
        refine wpX_want (i := 1) (by kernel_rfl) rfl (by simp [Region.wanted, yielded]) ?_; intro w' hx K hK; go_simp
        refine (HJ.out _ w' (hT5.ext hx)).mono ?_
        rintro e w6 ⟨r6, rfl, _, hb6⟩
        have hE6 : Ext w5 w6 := hx.trans ⟨hb6⟩
        refine hK _ _ hE6 ?_
        clear hK K hx hb6
        refine wpX_want (i := 2) (by kernel_rfl) rfl (by simp [Region.wanted, yielded]) ?_; intro w' hx K hK; go_simp
        have hE7 := hE6.trans hx
        refine hK _ _ hE7 ?_
        clear hK K hx hE6
        refine wpX_want (i := 3) (by kernel_rfl) rfl (by simp [Region.wanted, yielded]) ?_; intro w' hx K hK; go_simp
        have hE8 := hE7.trans hx
        refine hK _ _ hE8 ?_
        clear hK K hx hE7
        refine wpX_want (i := 14) (by kernel_rfl) rfl (by simp [Region.wanted, yielded]) ?_; intro w' hx K hK; go_simp
        have hE9 := hE8.trans hx
        refine hK _ _ hE9 ?_
        clear hK K hx hE8
        refine wpX_want (i := 15) (by kernel_rfl) rfl (by simp [Region.wanted, yielded]) ?_; intro w' hx K hK; go_simp
        have hE10 := hE9.trans hx
        refine hK _ _ hE10 ?_
        clear hK K hx hE9
        refine wpX_want (i := 16) (by kernel_rfl) rfl (by first | (simp [Region.wanted, yielded]; done) | (simp [Region.wanted, yielded]; omega) | (simp [Region.wanted, yielded, hh, show q + 1 ≤ wz by omega]; done) | (simp [Region.wanted, yielded, hh]; trace_state; omega)) ?_
        intro w' hx K hK
        go_simp
        have hE11 := hE10.trans hx
        refine (HK.out _ (hX5.trans hE11)).mono ?_
        rintro e w7 ⟨rfl, hb7⟩
        have hE12 := hE11.call hb7
        refine hK _ _ hE12 ?_
        clear hK K hx hE10 hE11 hb7
        refine wpX_want (i := 17) (by kernel_rfl) rfl (by simp [Region.wanted, yielded]) ?_; intro w' hx K hK; go_simp
        have hE13 := hE12.trans hx
        refine hK _ _ hE13 ?_
        clear hK K hx hE12
        refine wpX_want (i := 18) (by kernel_rfl) rfl (by simp [Region.wanted, yielded]) ?_; intro w' hx K hK; go_simp
        have hE14 := hE13.trans hx
        refine hK _ _ hE14 ?_
        clear hK K hx hE13
        refine wpX_done (by kernel_rfl) (fun w8 hx8 => ?_) _
        go_wp2_with (fail)
        go_ret
        exact ⟨by first | rfl | (simp; done) | (simp; omega), hL.trans ((hX5.trans (hE14.trans hx8)).below.mono hL.size)⟩
  · have hd : (!may14 s || decide (i < 1) || decide ((s.tasks.length : Int) ≤ i)) = true := by
      cases hm : may14 s with
      | false => simp
      | true =>
        rw [hm] at hin
        simp only [true_and] at hin
        simp
        omega
    rw [hd]
    go_wp2_with (fail)
    go_ret
    exact ⟨rfl, hL.trans (hX1.below.mono hL.size)⟩
end Go.Proofs.YtknfdjnbndfboaaGreatDoor
