/- SpreadOwn. -/
import Derived.Test.YtknfdjnbndfboabDoorProg
import Derived.Test.YtknfdjnbndfboabDoorBase
import Derived.Test.YtknfdjnbndfboabDoorHeldX
import Derived.Test.YtknfdjnbndfboabDoorApp
import Derived.Test.YtknfdjnbndfboabDoorTsk1
import Derived.Test.YtknfdjnbndfboabDoorTsk3
import Derived.Test.YtknfdjnbndfboabDoorTsk4
import Derived.Test.YtknfdjnbndfboabDoorTskZ
import Derived.Test.YtknfdjnbndfboabDoorTskD
import Derived.Test.YtknfdjnbndfboabDoorTskR
import Derived.Test.YtknfdjnbndfboabDoorTskP
import Derived.Test.YtknfdjnbndfboabDoorTskN
import Derived.Test.YtknfdjnbndfboabDoorTskA
import Derived.Test.YtknfdjnbndfboabDoorTskO
import Derived.Test.YtknfdjnbndfboabDoorSetO
import Derived.Test.YtknfdjnbndfboabDoorRespS
import Derived.Test.YtknfdjnbndfboabDoorResp
import Derived.Test.YtknfdjnbndfboabDoorTolA
import Derived.Test.YtknfdjnbndfboabDoorTolP
import Derived.Test.YtknfdjnbndfboabDoorSprO
import Derived.Test.YtknfdjnbndfboabDoorSprP
import Derived.Test.YtknfdjnbndfboabDoorSprL
import Derived.Test.YtknfdjnbndfboabDoorOwnB
import Derived.Test.YtknfdjnbndfboabDoorLaw15k
import Derived.Deep.Cut
import Derived.Lib.Hide
namespace Go.Proofs.YtknfdjnbndfboabDoor
open Go.RowKit
attribute [local go_sem] setCell_twice ByteArray.toList_eq str_list Ext.alloc Ext.drew
set_option linter.unusedSimpArgs false
set_option maxRecDepth 100000
set_option maxHeartbeats 6400000
attribute [local irreducible] popN Calls

theorem spreadOwn_walk (v : Value) (s : TSet) (w : World) (hv : ∃ x, v = setV s x ∧ Tasks w x s.tasks ∧ s.fit) (hG : GOK w) :
    Calls Tryd.prog 4 #[v] w fun e w' => e = .returned (.bool true) ∧ Below w.heap.size w w' := by
  obtain ⟨x, rfl, hx, hf⟩ := hv
  have l1 := hx.len
  have hg := hf.good
  have hx0 := hx
  obtain ⟨A, c, rfl, hle, hcm, _⟩ := hx0
  unfold maxLen at hcm
  go_enter Tryd.func4, Tryd.ntmps4
  unfold setV
  go_upto_region 1 with (fail)
  have hL : Below w.heap.size w (w.alloc (.cells #[.int .i64 s.reload, (.slice A s.tasks.length c)] 24)) := (by repeat (first | exact Below.refl _ _ | assumption | refine Below.drew ?_ | refine Below.alloc ?_ (by first | (simp; done) | (simp; omega) | omega) _ | refine Below.setCell ?_ (by first | (simp; done) | (simp; omega) | omega) _)); have hB : Blk (w.alloc (.cells #[.int .i64 s.reload, (.slice A s.tasks.length c)] 24)) w.heap.size #[.int .i64 s.reload, (.slice A s.tasks.length c)] 24 := Blk.new _ _ _
  have hr := hx.ext ⟨hL⟩
  have hG0 := hG.below hL
  generalize w.alloc _ = W at hL hB hr hG0 ⊢
  have hc := hB.under
  have hc0 := hc W (Ext.refl W)
  have HK := Lib.hid fun (W' : World) (h : Ext W W') => known15_any W' (hG0.below h.below)
  go_wp2_with (fail)
  refine (may15_any s _ _ hr hg).mono ?_
  rintro e w1 ⟨rfl, hb1⟩
  have hX1 : Ext W w1 := ⟨hb1⟩
  clear hc0 hb1
  cases hm : may14 s with
  | false =>
    go_wp2_with (fail)
    go_ret
    exact ⟨rfl, hL.trans (hX1.below.mono hL.size)⟩
  | true =>
    have hc1 := hc w1 hX1
    clear hm
    go_wp2_with (fail)
    refine (put_any s _ _ (hr.ext hX1) hf).mono ?_
    rintro e w2 ⟨v2, pi, rfl, hPi, hpi, hb2⟩
    have hX2 := hX1.call hb2
    have hTi : Tasks w2 v2 s.tasks := hpi ▸ hPi.tasks
    obtain ⟨Ai, ci, rfl, _, _, _⟩ := id hTi
    clear hPi hpi hc1
    unfold setV
    dsimp only
    go_upto_region 4 with (fail)
    have hXb := hX2.alloc (.cells #[.int .i64 s.reload, .slice Ai s.tasks.length ci] 24)
    have hBi : Blk (w2.alloc (.cells #[.int .i64 s.reload, .slice Ai s.tasks.length ci] 24)) w2.heap.size #[.int .i64 s.reload, .slice Ai s.tasks.length ci] 24 := Blk.new _ _ _
    have hTb := hTi.ext ((Ext.refl w2).alloc (.cells #[.int .i64 s.reload, .slice Ai s.tasks.length ci] 24))
    generalize w2.heap.size = gi at hBi ⊢
    generalize w2.alloc _ = wb at hXb hBi hTb ⊢
    have hci := hBi.under
    have hcs := fun W' (h : Ext wb W') => hc W' (hXb.trans h)
    have HK2 := Lib.hid fun (W' : World) (h : Ext wb W') => HK.out W' (hXb.trans h)
    have HS := Lib.hid fun (u : Value) (W' : World) (hu : Tasks W' u s.tasks) (h : Ext wb W') => sameR_any s s u (.slice A s.tasks.length c) W' hu (hr.ext (hXb.trans h))
    rw [decide_eq_true (rfl : s = s)] at HS
    have hP := spreadPut_any s (.slice Ai s.tasks.length ci) wb hTb hf (hG0.below hXb.below)
    have hcib := hci wb (Ext.refl wb)
    cases ho : spreadQ s with
    | none =>
      rw [show spreadS s = ⟨0, []⟩ by unfold spreadS; rw [ho], ho] at hP
      have hP : Calls Tryd.prog 11 #[setV s (.slice Ai s.tasks.length ci)] wb fun e w' => ∃ v' ps, e = .returned (.tuple #[setV ⟨0, []⟩ v', .bool false]) ∧ PutOwn w' wb.heap.size v' ps ∧ ps.map (·.1) = [] ∧ Below wb.heap.size wb w' := hP
      clear ho
      go_wp2_with (fail)
      refine hP.mono ?_
      rintro e w3 ⟨v3, ps, rfl, hP3, _, hb3⟩
      obtain ⟨Av, cv, rfl, _, _⟩ := hP3.1.form
      have hX3 : Ext wb w3 := ⟨hb3⟩
      unfold setV
      dsimp only
      clear hcib
      go_upto_region 6 with (fail)
      have hX4 := hX3.alloc (.cells #[.int .i64 0, .slice Av ps.length cv] 24)
      generalize w3.alloc _ = w4 at hX4 ⊢
      have hci4 := hci w4 hX4
      have hcs4 := hcs w4 hX4
      have hS4 := HS.out _ w4 (hTb.ext hX4) hX4
      unfold setV at hS4
      go_wp2_with (fail)
      refine hS4.mono ?_
      rintro e w5 ⟨rfl, hb5⟩
      have hX5 := hX4.call hb5
      go_wp2_with (fail)
      refine (HK2.out w5 hX5).mono ?_
      rintro e w6 ⟨rfl, hb6⟩
      go_wp2_with (fail)
      go_ret
      exact ⟨rfl, hL.trans ((hXb.trans (hX5.call hb6)).below.mono hL.size)⟩
    | some qs =>
      obtain ⟨bs, hS⟩ := Spread.of hf ho
      have hql := hS.qlen
      have hlen := hS.fine.len
      rw [show spreadS s = zipT floatT s qs by unfold spreadS; rw [ho], ho] at hP
      have hP : Calls Tryd.prog 11 #[setV s (.slice Ai s.tasks.length ci)] wb fun e w' => ∃ v' ps, e = .returned (.tuple #[setV (zipT floatT s qs) v', .bool true]) ∧ PutOwn w' wb.heap.size v' ps ∧ ps.map (·.1) = (zipT floatT s qs).tasks ∧ Below wb.heap.size wb w' := hP
      have hyl := zipT_len floatT s qs hql
      have hyg := Lib.hid fun j (h1 : j < s.tasks.length) (h2 : j < (zipT floatT s qs).tasks.length) (m q th : Int) (_ : m = s.tasks[j].mode) (_ : q = s.tasks[j].q) (_ : th = s.tasks[j].theta) => (show modedT m q th (zipT floatT s qs).tasks[j] = s.tasks[j] by
        subst_vars
        rw [zipT_get floatT s qs j h2 h1 (by omega)]
        rfl)
      clear ho hS
      go_wp2_with (fail)
      refine hP.mono ?_
      rintro e w3 ⟨v3, ps, rfl, hP3, hps, hb3⟩
      have hnl : ps.length = s.tasks.length := by rw [← hyl, ← hps, List.length_map]
      obtain ⟨g, cg, rfl, hg1, hg2⟩ := hP3.head (by intro e; rw [e] at hnl; simp at hnl; omega)
      rw [hnl] at hP3 ⊢
      have hX3 : Ext wb w3 := ⟨hb3⟩
      unfold setV
      rw [show (zipT floatT s qs).reload = s.reload from rfl]
      dsimp only
      clear hcib hP
      go_upto_region 5 with (fail)
      have hX4 := hX3.alloc (.cells #[.int .i64 s.reload, .slice (some ⟨g, 0, none⟩) s.tasks.length cg] 24)
      have hBx : Blk (w3.alloc (.cells #[.int .i64 s.reload, .slice (some ⟨g, 0, none⟩) s.tasks.length cg] 24)) w3.heap.size #[.int .i64 s.reload, .slice (some ⟨g, 0, none⟩) s.tasks.length cg] 24 := Blk.new _ _ _
      have hP4 := hP3.ext ((Ext.refl w3).alloc (.cells #[.int .i64 s.reload, .slice (some ⟨g, 0, none⟩) s.tasks.length cg] 24))
      have hne : w3.heap.size ≠ g := Nat.ne_of_gt hg2
      clear hP3 hb3 hX3 hg2
      generalize w3.heap.size = gx at hBx hne ⊢
      generalize w3.alloc _ = w4 at hX4 hBx hP4 ⊢
      have hBS4 : BoxS wb gx #[.int .i64 s.reload, .slice (some ⟨g, 0, none⟩) s.tasks.length cg] 24 w4 := ⟨hX4, hBx⟩
      have hps4 : ps.map (·.1) = s.tasks.take 0 ++ (zipT floatT s qs).tasks.drop 0 := by rw [hps]; rfl
      generalize (zipT floatT s qs).tasks = ys at hyl hyg hps4
      have hcs4 := hcs w4 hX4
      have hcx4 := hBx.cell
      have HYL := Lib.hid hyl
      clear hps hnl hyl
      go_wp2_with (fail)
      clear hcs4 hcx4
      go_loopw [6] (fun i wr => ∃ (k : Nat) (ps : List (Tsk × Value)), k ≤ s.tasks.length ∧ i = .int .i64 k ∧ PutOwn wr wb.heap.size (.slice (some ⟨g, 0, none⟩) s.tasks.length cg) ps ∧ Hid (ps.map (·.1) = s.tasks.take k ++ ys.drop k) ∧ BoxS wb gx #[.int .i64 s.reload, .slice (some ⟨g, 0, none⟩) s.tasks.length cg] 24 wr) (fun i _ => s.tasks.length - (intOf i).toNat)
      case atStart => exact ⟨0, ps, Nat.zero_le _, rfl, hP4, Lib.hid hps4, hBS4⟩
      case round =>
        obtain ⟨k, ps, hk, rfl, hP, HP, hBS⟩ := hrel
        have hcx := hBS.at
        have hcr := hcs wr hBS.1
        by_cases hlt : k < s.tasks.length
        · have hkl : ps.length = s.tasks.length := by
            have := congrArg List.length HP.out
            have h2 := HYL.out
            simp at this
            omega
          have hkp : k < ps.length := by omega
          obtain ⟨⟨t0, r0⟩, hp0⟩ : ∃ p, ps[k] = p := ⟨_, rfl⟩
          have ht0 : t0 = ys[k]'(by rw [HYL.out]; exact hlt) := by
            have h1 : (ps.map (·.1))[k]? = (s.tasks.take k ++ ys.drop k)[k]? := by rw [HP.out]
            rw [List.getElem?_eq_getElem (by rw [List.length_map]; exact hkp), List.getElem?_eq_getElem (by have := HYL.out; simp; omega)] at h1
            have h2 := Option.some.inj h1
            rw [List.getElem_map, hp0, back_at HYL.out hlt] at h2
            exact h2
          obtain ⟨b, o, r, rfl, hxk⟩ := hr.at hlt
          have hback := hyg.out k hlt (by rw [HYL.out]; exact hlt)
          rw [← ht0] at hback
          have hxb := hxk.ext hXb
          have hstep := back_step HYL.out hlt
          generalize s.tasks[k] = t at hxb hback hstep
          obtain ⟨x0, x1, x2, x3, x4, x5, x6, x7, x8⟩ := hxb.under
          have hSA : ∀ a, BoxS wb gx #[.int .i64 s.reload, .slice (some ⟨g, 0, none⟩) s.tasks.length cg] 24 a → ∀ j, a.cell? ⟨gx, j, none⟩ = #[.int .i64 s.reload, .slice (some ⟨g, 0, none⟩) s.tasks.length cg][j]? := fun a h => h.at
          have hSB : ∀ a, BoxS wb gx #[.int .i64 s.reload, .slice (some ⟨g, 0, none⟩) s.tasks.length cg] 24 a → ∀ j, a.cell? ⟨w.heap.size, j, none⟩ = #[.int .i64 s.reload, .slice (some ⟨b, o, none⟩) s.tasks.length c][j]? := fun a h => hcs a h.1
          have hS3 : ∀ a, BoxS wb gx #[.int .i64 s.reload, .slice (some ⟨g, 0, none⟩) s.tasks.length cg] 24 a → a.cell? ⟨b, o + k * 9 + 3, none⟩ = some (.int .i64 t.mode) := fun a h => x3 a h.1
          have hS4 : ∀ a, BoxS wb gx #[.int .i64 s.reload, .slice (some ⟨g, 0, none⟩) s.tasks.length cg] 24 a → a.cell? ⟨b, o + k * 9 + 4, none⟩ = some (.int .i64 t.q) := fun a h => x4 a h.1
          have hS5 : ∀ a, BoxS wb gx #[.int .i64 s.reload, .slice (some ⟨g, 0, none⟩) s.tasks.length cg] 24 a → a.cell? ⟨b, o + k * 9 + 5, none⟩ = some (.int .i64 t.theta) := fun a h => x5 a h.1
          have HBK := Lib.hid hback
          have HST := Lib.hid hstep
          clear x0 x1 x2 x3 x4 x5 x6 x7 x8 ht0 hback hstep hxk hxb
          go_upto_region 12 with (fail)
          clear hcx hcr
          refine wp_region_mix (T := [29, 32, 35]) (S := BoxS wb gx #[.int .i64 s.reload, .slice (some ⟨g, 0, none⟩) s.tasks.length cg] 24) (W := wr) (fun _ _ h hx => h.ext hx) (by kernel_rfl) (by kernel_rfl) (Ext.refl wr).drew hBS (fun _ _ h => h) (fun K hK => ?_)
          (repeat (first | (refine hX_skip ?_ ?_; (· rfl)) | (apply hX_and; (· rfl); (· rfl); (· rfl); (· rfl); (· rfl); simp only [Act.put, List.setIfInBounds_toArray, List.set_cons_zero, List.set_cons_succ]) | (apply hX_or; (· rfl); (· rfl); (· rfl); (· rfl); (· rfl); simp only [Act.put, List.setIfInBounds_toArray, List.set_cons_zero, List.set_cons_succ]) | (apply hX_off; (· rfl); (· rfl); (· rfl); simp only [Act.put, List.setIfInBounds_toArray, List.set_cons_zero, List.set_cons_succ]) | (apply hX_val; (· rfl); (· intro w hS; go_simp; with_reducible rfl); (· rfl); simp only [Act.put, List.setIfInBounds_toArray, List.set_cons_zero, List.set_cons_succ]) | (apply hX_call; (· rfl); (· rfl); (· intro w hS; go_simp; exact ⟨rfl, rfl⟩); (· intro w hS; fail); simp only [Act.put, List.setIfInBounds_toArray, List.set_cons_zero, List.set_cons_succ]) | (apply hX_if; (· rfl); (· rfl); (· rfl); (· intro hif w hS; go_simp; with_reducible rfl); simp only [Act.put, List.setIfInBounds_toArray, List.set_cons_zero, List.set_cons_succ]) | (apply hX_ifcall; (· rfl); (· rfl); (· rfl); (· intro hif w hS; go_simp; exact ⟨rfl, rfl⟩); (· intro hif w hS; fail); simp only [Act.put, List.setIfInBounds_toArray, List.set_cons_zero, List.set_cons_succ]))); refine hX_nil ?_
          refine hK _ ?_
          clear hK K
          refine wpX_want (i := 29) (by kernel_rfl) rfl (by simp [Region.wanted, yielded]) ?_; intro w' hx K hK; have hPx := hP.ext hx; have hSx2 := hBS.ext hx; obtain ⟨⟨u0, e1⟩, e2⟩ := hPx.cellS (i := k) (k := 3) (by simpa using hkp) (by decide); clear hP hBS; go_simp; have hBS := hSx2.set (i := k * 9 + 3) hg1 hne (.int .i64 t.mode); have hP := hPx.stored2 (i := k) (k := 3) (u := .int .i64 t.mode) (t := modedT t.mode t0.q t0.theta t0) (t0 := t0) (r := r0) (by simpa using hkp) (by decide) (hp0) (by simp [encT, modedT]) rfl; refine hK _ _ hBS ?_; clear hK K hx e1 e2 hPx hSx2
          refine wpX_want (i := 32) (by kernel_rfl) rfl (by simp [Region.wanted, yielded]) ?_; intro w' hx K hK; have hPx := hP.ext hx; have hSx2 := hBS.ext hx; obtain ⟨⟨u0, e1⟩, e2⟩ := hPx.cellS (i := k) (k := 4) (by simpa using hkp) (by decide); clear hP hBS; go_simp; have hBS := hSx2.set (i := k * 9 + 4) hg1 hne (.int .i64 t.q); have hP := hPx.stored2 (i := k) (k := 4) (u := .int .i64 t.q) (t := modedT t.mode t.q t0.theta t0) (t0 := modedT t.mode t0.q t0.theta t0) (r := r0) (by simpa using hkp) (by decide) (by simp) (by simp [encT, modedT]) rfl; refine hK _ _ hBS ?_; clear hK K hx e1 e2 hPx hSx2
          refine wpX_want (i := 35) (by kernel_rfl) rfl (by simp [Region.wanted, yielded]) ?_; intro w' hx K hK; have hPx := hP.ext hx; have hSx2 := hBS.ext hx; obtain ⟨⟨u0, e1⟩, e2⟩ := hPx.cellS (i := k) (k := 5) (by simpa using hkp) (by decide); clear hP hBS; go_simp; have hBS := hSx2.set (i := k * 9 + 5) hg1 hne (.int .i64 t.theta); have hP := hPx.stored2 (i := k) (k := 5) (u := .int .i64 t.theta) (t := modedT t.mode t.q t.theta t0) (t0 := modedT t.mode t.q t0.theta t0) (r := r0) (by simpa using hkp) (by decide) (by simp) (by simp [encT, modedT]) rfl; refine hK _ _ hBS ?_; clear hK K hx e1 e2 hPx hSx2
          rw [List.set_set, List.set_set] at hP
          refine wpX_done (by kernel_rfl) (fun w5 hx5 => ?_) _
          have hP5 := hP.ext hx5
          have hB5 := hBS.ext hx5
          have hmap : (ps.set k (modedT t.mode t.q t.theta t0, r0)).map (·.1) = s.tasks.take (k + 1) ++ ys.drop (k + 1) := by
            rw [← HST.out, List.map_set, HP.out, HBK.out t.mode t.q t.theta rfl rfl rfl]
          have HM := Lib.hid hmap
          clear hmap hP hBS hSA hSB hS3 hS4 hS5
          go_wp2_with (fail)
          exact ⟨⟨k + 1, _, hlt, rfl, hP5, HM, hB5⟩, by simp [intOf]; omega⟩
        · have hke : k = s.tasks.length := Nat.le_antisymm hk (Nat.not_lt.1 hlt)
          have hTx : Tasks wr (.slice (some ⟨g, 0, none⟩) s.tasks.length cg) s.tasks := by
            have h1 := hP.tasks
            rw [HP.out, hke, List.take_length, List.drop_of_length_le (by rw [HYL.out]; exact Nat.le_refl _), List.append_nil] at h1
            exact h1
          have hX := hBS.1
          have hcir := hci wr hX
          have hS1 := HS.out _ wr (hTb.ext hX) hX
          unfold setV at hS1
          go_wp2_with (fail)
          refine hS1.mono ?_
          rintro e w5 ⟨rfl, hb5⟩
          have hX5 := hX.call hb5
          have hcx5 := (hBS.ext ⟨hb5⟩).at
          have hcr5 := hcs w5 hX5
          have hS2 := HS.out _ w5 (hTx.ext ⟨hb5⟩) hX5
          unfold setV at hS2
          clear hcir hcx hcr
          go_wp2_with (fail)
          refine hS2.mono ?_
          rintro e w6 ⟨rfl, hb6⟩
          have hX6 := hX5.call hb6
          go_wp2_with (fail)
          refine (HK2.out w6 hX6).mono ?_
          rintro e w7 ⟨rfl, hb7⟩
          go_wp2_with (fail)
          go_ret
          exact ⟨rfl, hL.trans ((hXb.trans (hX6.call hb7)).below.mono hL.size)⟩
end Go.Proofs.YtknfdjnbndfboabDoor
