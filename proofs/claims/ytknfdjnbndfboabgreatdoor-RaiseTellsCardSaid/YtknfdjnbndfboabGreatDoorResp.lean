/- resp: With, Of; ref12: With. -/
import Derived.Test.YtknfdjnbndfboabGreatDoorProg
import Derived.Test.YtknfdjnbndfboabGreatDoorBase
import Derived.Test.YtknfdjnbndfboabGreatDoorHeldX
import Derived.Test.YtknfdjnbndfboabGreatDoorApp
import Derived.Test.YtknfdjnbndfboabGreatDoorTsk1
import Derived.Test.YtknfdjnbndfboabGreatDoorTsk3
import Derived.Test.YtknfdjnbndfboabGreatDoorTskZ
import Derived.Test.YtknfdjnbndfboabGreatDoorTskP
import Derived.Test.YtknfdjnbndfboabGreatDoorRespS
import Derived.Test.YtknfdjnbndfboabGreatDoorAgain
import Derived.Test.YtknfdjnbndfboabGreatDoorCst
import Derived.Test.YtknfdjnbndfboabGreatDoorNumP
import Derived.Test.YtknfdjnbndfboabGreatDoorLoadW
import Derived.Test.YtknfdjnbndfboabGreatDoorFix
import Derived.Test.YtknfdjnbndfboabGreatDoorR10
import Derived.Test.YtknfdjnbndfboabGreatDoorRef8
import Derived.Test.YtknfdjnbndfboabGreatDoorAct
import Derived.Test.YtknfdjnbndfboabGreatDoorBlkO
import Derived.Deep.Cut
import Derived.Lib.Hide
namespace Go.Proofs.YtknfdjnbndfboabGreatDoor
open Go.RowKit
attribute [local go_sem] setCell_twice ByteArray.toList_eq str_list Ext.alloc Ext.drew
set_option linter.unusedSimpArgs false
set_option maxRecDepth 100000
set_option maxHeartbeats 6400000
attribute [local irreducible] popN

theorem jobs_top {T long : Int} (hT : 1 ≤ T) (hl : 0 ≤ long) : 0 ≤ (jobsN T long : Int) * T ∧ (jobsN T long : Int) * T ≤ long + T := by
  rcases h : jobsN T long with _ | n
  · simp; omega
  · have := (jobs_iff hT hl n).1 (by omega)
    have e : ((n + 1 : Nat) : Int) * T = n * T + T := by rw [Int.natCast_add, Int.add_mul]; omega
    have h0 := Int.mul_nonneg (show (0 : Int) ≤ n by omega) (show 0 ≤ T by omega)
    omega
def pairZ (p : Int × Int) : Value := .tuple #[.int .i64 p.1, .int .i64 p.2]
theorem own_ch9 {α : Type} {enc : α → List Value} {w : World} {base size : Nat} {e : TypeId} {v : Value} {xs : List α} {g : Nat} {v0 v1 v2 v3 v4 v5 v6 v7 v8 : Value} (h : OwnL enc w base e size v xs) (hne : v.ownBlock ≠ some g) : OwnL enc (((((((((w.setCell ⟨g, 0, none⟩ v0).setCell ⟨g, 1, none⟩ v1).setCell ⟨g, 2, none⟩ v2).setCell ⟨g, 3, none⟩ v3).setCell ⟨g, 4, none⟩ v4).setCell ⟨g, 5, none⟩ v5).setCell ⟨g, 6, none⟩ v6).setCell ⟨g, 7, none⟩ v7).setCell ⟨g, 8, none⟩ v8) base e size v xs :=
  ((((((((h.set (a := ⟨g, 0, none⟩) hne v0).set (a := ⟨g, 1, none⟩) hne v1).set (a := ⟨g, 2, none⟩) hne v2).set (a := ⟨g, 3, none⟩) hne v3).set (a := ⟨g, 4, none⟩) hne v4).set (a := ⟨g, 5, none⟩) hne v5).set (a := ⟨g, 6, none⟩) hne v6).set (a := ⟨g, 7, none⟩) hne v7).set (a := ⟨g, 8, none⟩) hne v8
theorem respWith_any (s : TSet) (v : Value) (i : Nat) (bl : Int) (w : World) (hv : Tasks w v s.tasks) (hs : Fine s) (hi : i < s.tasks.length) :
    Calls Tryz.prog 42 #[setV s v, .int .i64 i, .int .i64 bl] w fun e w' => e = .returned (pairZ (withS s i bl)) ∧ Below w.heap.size w w' := by
  have l1 := hv.len
  have hlen := hs.len
  have hv0 := hv
  obtain ⟨A, c, rfl, hle, hcm, _⟩ := hv0
  unfold maxLen at hcm
  go_enter Tryz.func42, Tryz.ntmps42
  unfold setV
  go_upto_region 1 with (fail)
  have hL : Below w.heap.size w (w.alloc (.cells #[.int .i64 s.reload, (.slice A s.tasks.length c)] 24)) := (by repeat (first | exact Below.refl _ _ | assumption | refine Below.drew ?_ | refine Below.alloc ?_ (by first | (simp; done) | (simp; omega) | omega) _ | refine Below.setCell ?_ (by first | (simp; done) | (simp; omega) | omega) _)); have hB : Blk (w.alloc (.cells #[.int .i64 s.reload, (.slice A s.tasks.length c)] 24)) w.heap.size #[.int .i64 s.reload, (.slice A s.tasks.length c)] 24 := Blk.new _ _ _
  have hr := hv.ext ⟨hL⟩
  generalize w.alloc _ = W at hL hB hr ⊢
  have hc := hB.under
  obtain ⟨b, o, r, rfl, hx⟩ := hr.at hi
  have HA := Lib.hid fun W' (hW' : Ext W W') => actOf_any s (.slice (some ⟨b, o, none⟩) s.tasks.length c) i bl W' (hr.ext hW') hs hi
  have HD := Lib.hid fun W' (hW' : Ext W W') => actLoads_any s (.slice (some ⟨b, o, none⟩) s.tasks.length c) i W' (hr.ext hW') hs hi
  have HW := Lib.hid fun W' (h2 : Ext W W') => work_any s.tasks[i] r W' (hx.1.ext h2)
  have hrow := hx.row
  have hft := hs.at i hi
  have hlk := loads_ok hs (i := i) (by omega)
  have hws := withS_in s hi bl
  have HWS := Lib.hid hws
  generalize s.tasks[i] = t at hx hrow HW hft HA HWS
  generalize loadsS s i = ls at HA HD hlk HWS
  unfold tskV at HW
  obtain ⟨A2, c2, rfl⟩ := hrow
  obtain ⟨x0, x1, x2, x3, x4, x5, x6, x7, x8⟩ := hx.under
  have hwk := hft.work
  have htm := hft.time
  generalize workL t.regs = wk at HW HA hwk HWS
  clear hx hws
  have hcell := hB.cell
  go_wp2_with (fail)
  refine (HA.out W (Ext.refl W)).mono ?_
  rintro e w1 ⟨rfl, hb1⟩
  have hX1 : Ext W w1 := ⟨hb1⟩
  clear hb1 hcell
  cases hlst : least bl (ls ++ [(t.T, wk)]) with
  | none =>
    have hw0 : withL t.T wk t.D bl ls = (0, 3) := by unfold withL; rw [hlst]
    have H0 := Lib.hid hw0
    clear hw0 hlst
    unfold optN
    go_wp2_with (fail)
    exact bodyPost_ret (v := pairZ (0, 3)) (by simp [pairZ, results, Tryz.results42, go_sem, *]) rfl ⟨by rw [HWS.out, H0.out], hL.trans (hX1.below.mono hL.size)⟩
  | some long =>
    have hw0 : withL t.T wk t.D bl ls = (respL t.T wk bl ls (jobsN t.T long), if respL t.T wk bl ls (jobsN t.T long) ≤ t.D then 1 else 2) := by unfold withL; rw [hlst]
    have H0 := Lib.hid hw0
    have HL := Lib.hid hlst
    clear hw0 hlst
    unfold optN
    dsimp only
    go_upto_region 4 with (fail)
    refine' wp_region_mixV (T := [7, 8, 9, 10]) (S := Ext W) (W := w1) (fun g v w => Ext W w ∧ OwnL encLd w W.heap.size 79 2 v ls ∧ Blk w g #[.string t.name, .int .i64 t.T, .int .i64 t.D, .int .i64 t.mode, .int .i64 t.q, .int .i64 t.theta, (.slice A2 t.regs.length c2), .int .u64 t.ecb, .int .u64 t.ucb] 41) (Ext.mono W) (by kernel_rfl) (by kernel_rfl) (Ext.refl w1).drew hX1 (fun K hK => ?_) ?_
    rotate_left 1
    · (repeat (first | (refine hX_skip ?_ ?_; (· rfl)) | (apply hX_and; (· rfl); (· rfl); (· rfl); (· rfl); (· rfl); simp only [Act.put, List.setIfInBounds_toArray, List.set_cons_zero, List.set_cons_succ]) | (apply hX_or; (· rfl); (· rfl); (· rfl); (· rfl); (· rfl); simp only [Act.put, List.setIfInBounds_toArray, List.set_cons_zero, List.set_cons_succ]) | (apply hX_off; (· rfl); (· rfl); (· rfl); simp only [Act.put, List.setIfInBounds_toArray, List.set_cons_zero, List.set_cons_succ]) | (apply hX_val; (· rfl); (· intro w hS; go_simp; with_reducible rfl); (· rfl); simp only [Act.put, List.setIfInBounds_toArray, List.set_cons_zero, List.set_cons_succ]) | (apply hX_call; (· rfl); (· rfl); (· intro w hS; go_simp; exact ⟨rfl, rfl⟩); (· intro w hS; fail); simp only [Act.put, List.setIfInBounds_toArray, List.set_cons_zero, List.set_cons_succ]) | (apply hX_if; (· rfl); (· rfl); (· rfl); (· intro hif w hS; go_simp; with_reducible rfl); simp only [Act.put, List.setIfInBounds_toArray, List.set_cons_zero, List.set_cons_succ]) | (apply hX_ifcall; (· rfl); (· rfl); (· rfl); (· intro hif w hS; go_simp; exact ⟨rfl, rfl⟩); (· intro hif w hS; fail); simp only [Act.put, List.setIfInBounds_toArray, List.set_cons_zero, List.set_cons_succ]))); refine hX_nil ?_
      refine hK _ ?_
      clear hK K
      refine wpX_two (i := 7) (j := 8) (by kernel_rfl) rfl rfl rfl rfl ?_ ?_
      · intro w2 hx2 K hK
        go_simp
        refine (HD.out _ (hX1.trans hx2)).mono ?_
        rintro e w3 ⟨v3, rfl, hO3, hb3⟩
        have hX3 := (hX1.trans hx2).call hb3
        have hO3 := hO3.lower (hX1.trans hx2).size
        refine hK _ _ hX3 ?_
        clear hK K hx2 hb3
        refine wpX_want (i := 8) (by kernel_rfl) rfl (by simp [Region.wanted, yielded]) ?_
        intro w4 hx4 K hK
        go_simp
        have hb1 : Blk (w4.alloc (.cells #[.string ⟨#[]⟩, .int .i64 0, .int .i64 0, .int .i64 0, .int .i64 0, .int .i64 0, .slice none 0 0, .int .u64 0, .int .u64 0] 41)) w4.heap.size #[.string ⟨#[]⟩, .int .i64 0, .int .i64 0, .int .i64 0, .int .i64 0, .int .i64 0, .slice none 0 0, .int .u64 0, .int .u64 0] 41 := Blk.new _ _ _
        have hE2 := (hX3.trans hx4).alloc (.cells #[.string ⟨#[]⟩, .int .i64 0, .int .i64 0, .int .i64 0, .int .i64 0, .int .i64 0, .slice none 0 0, .int .u64 0, .int .u64 0] 41)
        have hg1 := (hX3.trans hx4).size
        have hl1 := hb1.lt
        have hO4 := (hO3.below hx4.below).alloc (.cells #[.string ⟨#[]⟩, .int .i64 0, .int .i64 0, .int .i64 0, .int .i64 0, .int .i64 0, .slice none 0 0, .int .u64 0, .int .u64 0] 41)
        have hne : v3.ownBlock ≠ some w4.heap.size := own_ne_blk hO4 hb1 (by decide)
        refine hK _ _ hE2 ?_
        clear hK K hx4 hO3 hX3
        generalize w4.heap.size = g1 at hb1 hg1 hne ⊢
        generalize w4.alloc _ = W2 at hb1 hE2 hO4 ⊢
        refine wpX_want (i := 9) (by kernel_rfl) rfl (by simp [Region.wanted, yielded]) ?_; intro w5 hx5 K hK; have hb3 := hb1.ext hx5; have hE3 := hE2.trans hx5; have hO5 := hO4.below hx5.below; clear hx5 hb1 hE2 hO4; have hc4 := hb3.cell; have hf4 := hb3.free; go_simp; refine hK _ _ (ext_ch9 hE3 hg1) ?_; clear hK K hc4 hf4; refine wpX_want (i := 10) (by kernel_rfl) rfl (by simp [Region.wanted, yielded]) ?_; intro w6 hx6 K hK; go_simp; have hE6 := (ext_ch9 hE3 hg1).trans hx6; have hT6 := (blk_ch9 hb3).ext hx6; have hO6 := (own_ch9 hO5 hne).below hx6.below; refine hK _ _ hE6 ?_; clear hK K hx6 hb3 hE3 hO5; refine wpX_done (by kernel_rfl) (fun w7 hx7 => ⟨g1, v3, rfl, hE6.trans hx7, hO6.below hx7.below, hT6.ext hx7⟩) _
      · intro w2 hx2 K hK
        go_simp
        have hb2 : Blk (w2.alloc (.cells #[.string ⟨#[]⟩, .int .i64 0, .int .i64 0, .int .i64 0, .int .i64 0, .int .i64 0, .slice none 0 0, .int .u64 0, .int .u64 0] 41)) w2.heap.size #[.string ⟨#[]⟩, .int .i64 0, .int .i64 0, .int .i64 0, .int .i64 0, .int .i64 0, .slice none 0 0, .int .u64 0, .int .u64 0] 41 := Blk.new _ _ _
        have hX3 := (hX1.trans hx2).alloc (.cells #[.string ⟨#[]⟩, .int .i64 0, .int .i64 0, .int .i64 0, .int .i64 0, .int .i64 0, .slice none 0 0, .int .u64 0, .int .u64 0] 41)
        have hg1 := (hX1.trans hx2).size
        refine hK _ _ hX3 ?_
        clear hK K hx2
        generalize w2.heap.size = g1 at hb2 hg1 ⊢
        generalize w2.alloc _ = W2 at hb2 hX3 ⊢
        refine wpX_want (i := 7) (by kernel_rfl) rfl (by simp [Region.wanted, yielded]) ?_
        intro w4 hx4 K hK
        go_simp
        refine (HD.out _ (hX3.trans hx4)).mono ?_
        rintro e w3 ⟨v3, rfl, hO3, hb3⟩
        have hE2 := (hX3.trans hx4).call hb3
        have hO4 := hO3.lower (hX3.trans hx4).size
        have hb1 := (hb2.ext hx4).ext ⟨hb3⟩
        have hne : v3.ownBlock ≠ some g1 := own_ne_blk hO4 hb1 (by decide)
        refine hK _ _ hE2 ?_
        clear hK K hx4 hb3 hb2 hX3 hO3
        refine wpX_want (i := 9) (by kernel_rfl) rfl (by simp [Region.wanted, yielded]) ?_; intro w5 hx5 K hK; have hb3 := hb1.ext hx5; have hE3 := hE2.trans hx5; have hO5 := hO4.below hx5.below; clear hx5 hb1 hE2 hO4; have hc4 := hb3.cell; have hf4 := hb3.free; go_simp; refine hK _ _ (ext_ch9 hE3 hg1) ?_; clear hK K hc4 hf4; refine wpX_want (i := 10) (by kernel_rfl) rfl (by simp [Region.wanted, yielded]) ?_; intro w6 hx6 K hK; go_simp; have hE6 := (ext_ch9 hE3 hg1).trans hx6; have hT6 := (blk_ch9 hb3).ext hx6; have hO6 := (own_ch9 hO5 hne).below hx6.below; refine hK _ _ hE6 ?_; clear hK K hx6 hb3 hE3 hO5; refine wpX_done (by kernel_rfl) (fun w7 hx7 => ⟨g1, v3, rfl, hE6.trans hx7, hO6.below hx7.below, hT6.ext hx7⟩) _
    · rintro g v w2 ⟨hX2, hO2, hT⟩
      have hcT := hT.cell
      obtain ⟨Av, cv, rfl, _, _⟩ := hO2.form
      have hLd := hO2.loads
      clear hO2
      go_wp2_with (fail)
      refine (HW.out _ hX2).mono ?_
      rintro e w3 ⟨rfl, hb3⟩
      have hX3 := hX2.call hb3
      have hT3 := hT.ext ⟨hb3⟩
      have hLd3 := hLd.ext ⟨hb3⟩
      have hTT : 1 ≤ t.T ∧ t.T ≤ 1000000 := by omega
      have hww : 1 ≤ wk ∧ wk ≤ 1000000 := by omega
      obtain ⟨z1, z2, z3, z4, _⟩ := busy_job hlk hTT hww HL.out
      have hjo : ∀ q : Nat, q < jobsN t.T long ↔ (q : Int) * t.T < long := fun q => jobs_iff hTT.1 (by omega) q
      have HJ := Lib.hid hjo
      have HRG := Lib.hid fun (q : Nat) (hq : (q : Int) * t.T < long) => job_range hlk hTT hww HL.out q hq
      have HDN := Lib.hid fun (q : Nat) (hq : (q : Int) * t.T < long) => done_job hlk hTT hww HL.out q hq
      have HJL := Lib.hid fun (q : Nat) (hq : (q : Int) * t.T < long) => job_least hlk hTT hww HL.out q hq
      clear hcT hT hLd hb3 hX2 hjo x0 x1 x2 x3 x4 x5 x6 x7 x8 HD HA HW hr hv hB hc hft
      obtain ⟨T, hTe⟩ : ∃ T, T = t.T := ⟨_, rfl⟩
      obtain ⟨D, hDe⟩ : ∃ D, D = t.D := ⟨_, rfl⟩
      rw [← hTe] at HJ HRG HDN HJL hTT H0 HL
      rw [← hDe] at H0
      have HTE := Lib.hid hTe
      have HDE := Lib.hid hDe
      clear hTe hDe
      go_wp2_with (fail)
      go_loopw [6, 13, 14] (fun a f q wr => ∃ k : Nat, k ≤ jobsN T long ∧ a = .int .i64 (respL T wk bl ls k) ∧ f = .int .i64 (fromF wk bl ls k) ∧ q = .int .i64 k ∧ Ext w3 wr) (fun _ _ q _ => jobsN T long - (intOf q).toNat)
      case atStart => exact ⟨0, Nat.zero_le _, rfl, rfl, rfl, Ext.refl _⟩
      case round =>
        obtain ⟨k, hk, rfl, rfl, rfl, hX⟩ := hrel
        have hcT := (hT3.ext hX).cell
        rw [← HTE.out, ← HDE.out] at hcT
        by_cases hlt : (k : Int) * T < long
        · have hk1 := (HJ.out k).2 hlt
          have r1 := HRG.out k hlt
          have d1 := HDN.out k hlt
          have j1 := HJL.out k hlt
          have p1 := resp_range hlk hTT hww HL.out k hk
          have hst : respL T wk bl ls (k + 1) = max (respL T wk bl ls k) (leastZ (bl + (k + 1) * wk) ls - k * T) := rfl
          have hfs : fromF wk bl ls (k + 1) = leastZ (bl + (k + 1) * wk) ls := rfl
          have hDC := done_any (bl + ((k : Int) + 1) * wk) ls (fromF wk bl ls k) _ wr (hLd3.ext hX) (hlk.ok (by omega) (by omega))
          rw [d1] at hDC
          obtain ⟨j1, _, j2, j3, _, _⟩ := j1
          clear d1 j1
          obtain ⟨m1, hm1⟩ : ∃ m1, (k : Int) * T = m1 := ⟨_, rfl⟩
          obtain ⟨m2, hm2⟩ : ∃ m2, ((k : Int) + 1) * wk = m2 := ⟨_, rfl⟩
          rw [hm1] at hlt r1 hst
          rw [hm2] at r1 hst hfs hDC j2 j3
          generalize leastZ (bl + m2) ls = f2 at hst hfs hDC j2 j3
          generalize fromF wk bl ls k = f1 at hDC ⊢
          generalize respL T wk bl ls k = ra at hst p1 ⊢
          have HST := Lib.hid hst
          have HFS := Lib.hid hfs
          clear hst hfs
          have w1 : IntKind.i64.wrap ((k : Int) * T) = m1 := by rw [hm1, IntKind.wrap_i64]; omega
          have w3 : wrap64 ((k : Int) * T) = m1 := by rw [hm1]; unfold wrap64; omega
          have w2 : IntKind.i64.wrap (((k : Int) + 1) * wk) = m2 := by rw [hm2, IntKind.wrap_i64]; omega
          have w4 : wrap64 (((k : Int) + 1) * wk) = m2 := by rw [hm2]; unfold wrap64; omega
          clear hm1 hm2
          go_wp2_with (fail)
          refine hDC.mono ?_
          rintro e w4 ⟨rfl, hb4⟩
          have hcT := (hT3.ext (hX.call hb4)).cell
          rw [← HTE.out, ← HDE.out] at hcT
          go_wp2_with (fail)
          exact ⟨⟨k + 1, hk1, by rw [HST.out], by rw [HFS.out], rfl, hX.call hb4⟩, by simp [intOf]; omega⟩
        · have hke : k = jobsN T long := Nat.le_antisymm hk (Nat.not_lt.1 (fun h => hlt ((HJ.out k).1 h)))
          have ht := jobs_top (long := long) hTT.1 (by omega)
          rw [← hke] at ht
          obtain ⟨m1, hm1⟩ : ∃ m1, (k : Int) * T = m1 := ⟨_, rfl⟩
          rw [hm1] at hlt ht
          have w1 : IntKind.i64.wrap ((k : Int) * T) = m1 := by rw [hm1, IntKind.wrap_i64]; omega
          have w3 : wrap64 ((k : Int) * T) = m1 := by rw [hm1]; unfold wrap64; omega
          have h0 := H0.out
          rw [← hke] at h0
          generalize respL T wk bl ls k = ra at h0 ⊢
          clear hm1
          have HK := Lib.hid hke
          clear hke
          by_cases hrd : ra ≤ D
          · rw [if_pos hrd] at h0
            have H1 := Lib.hid h0
            clear h0
            go_wp2_with (fail)
            exact bodyPost_ret (v := pairZ (ra, 1)) (by simp [pairZ, results, Tryz.results42, go_sem, *]) rfl ⟨by rw [HWS.out, ← HTE.out, ← HDE.out, H1.out], hL.trans ((hX3.trans hX).below.mono hL.size)⟩
          · rw [if_neg hrd] at h0
            have H1 := Lib.hid h0
            clear h0
            go_wp2_with (fail)
            exact bodyPost_ret (v := pairZ (ra, 2)) (by simp [pairZ, results, Tryz.results42, go_sem, *]) rfl ⟨by rw [HWS.out, ← HTE.out, ← HDE.out, H1.out], hL.trans ((hX3.trans hX).below.mono hL.size)⟩
theorem refWith_any (s : TSet) (v : Value) (i : Nat) (bl : Int) (w : World) (hv : Tasks w v s.tasks) (hs : Fine s) (hi : i < s.tasks.length) :
    Calls Tryz.prog 36 #[setV s v, .int .i64 i, .int .i64 bl] w fun e w' => e = .returned (pairZ (withS s i bl)) ∧ Below w.heap.size w w' := by
  have l1 := hv.len
  have hlen := hs.len
  have hv0 := hv
  obtain ⟨A, c, rfl, hle, hcm, _⟩ := hv0
  unfold maxLen at hcm
  go_enter Tryz.func36, Tryz.ntmps36
  unfold setV
  go_upto_region 1 with (fail)
  have hL : Below w.heap.size w (w.alloc (.cells #[.int .i64 s.reload, (.slice A s.tasks.length c)] 24)) := (by repeat (first | exact Below.refl _ _ | assumption | refine Below.drew ?_ | refine Below.alloc ?_ (by first | (simp; done) | (simp; omega) | omega) _ | refine Below.setCell ?_ (by first | (simp; done) | (simp; omega) | omega) _)); have hB : Blk (w.alloc (.cells #[.int .i64 s.reload, (.slice A s.tasks.length c)] 24)) w.heap.size #[.int .i64 s.reload, (.slice A s.tasks.length c)] 24 := Blk.new _ _ _
  have hr := hv.ext ⟨hL⟩
  generalize w.alloc _ = W at hL hB hr ⊢
  have hc := hB.under
  obtain ⟨b, o, r, rfl, hx⟩ := hr.at hi
  have HA := Lib.hid fun W' (hW' : Ext W W') => refOf_any s (.slice (some ⟨b, o, none⟩) s.tasks.length c) i bl W' (hr.ext hW') hs hi
  have HD := Lib.hid fun W' (hW' : Ext W W') => refLoads_any s (.slice (some ⟨b, o, none⟩) s.tasks.length c) i W' (hr.ext hW') hs hi
  have HW := Lib.hid fun W' (h2 : Ext W W') => work8_any s (.slice (some ⟨b, o, none⟩) s.tasks.length c) i W' (hr.ext h2) hi
  have hrow := hx.row
  have hft := hs.at i hi
  have hlk := loads_ok hs (i := i) (by omega)
  have hws := withS_in s hi bl
  have HWS := Lib.hid hws
  generalize s.tasks[i] = t at hx hrow HW hft HA HWS
  generalize loadsS s i = ls at HA HD hlk HWS
  obtain ⟨A2, c2, rfl⟩ := hrow
  obtain ⟨x0, x1, x2, x3, x4, x5, x6, x7, x8⟩ := hx.under
  have hwk := hft.work
  have htm := hft.time
  generalize workL t.regs = wk at HW HA hwk HWS
  clear hx hws
  have hcell := hB.cell
  go_wp2_with (fail)
  refine (HA.out W (Ext.refl W)).mono ?_
  rintro e w1 ⟨rfl, hb1⟩
  have hX1 : Ext W w1 := ⟨hb1⟩
  clear hb1 hcell
  cases hlst : least bl (ls ++ [(t.T, wk)]) with
  | none =>
    have hw0 : withL t.T wk t.D bl ls = (0, 3) := by unfold withL; rw [hlst]
    have H0 := Lib.hid hw0
    clear hw0 hlst
    unfold optN
    go_wp2_with (fail)
    exact bodyPost_ret (v := pairZ (0, 3)) (by simp [pairZ, results, Tryz.results36, go_sem, *]) rfl ⟨by rw [HWS.out, H0.out], hL.trans (hX1.below.mono hL.size)⟩
  | some long =>
    have hw0 : withL t.T wk t.D bl ls = (respL t.T wk bl ls (jobsN t.T long), if respL t.T wk bl ls (jobsN t.T long) ≤ t.D then 1 else 2) := by unfold withL; rw [hlst]
    have H0 := Lib.hid hw0
    have HL := Lib.hid hlst
    clear hw0 hlst
    unfold optN
    dsimp only
    have hcB1 := (hB.ext hX1).cell
    have y0 := x0 w1 hX1
    have y1 := x1 w1 hX1
    have y2 := x2 w1 hX1
    have y3 := x3 w1 hX1
    have y4 := x4 w1 hX1
    have y5 := x5 w1 hX1
    have y6 := x6 w1 hX1
    have y7 := x7 w1 hX1
    have y8 := x8 w1 hX1
    go_upto_region 5 with (fail)
    have hX2 := hX1.alloc (.cells #[.string t.name, .int .i64 t.T, .int .i64 t.D, .int .i64 t.mode, .int .i64 t.q, .int .i64 t.theta, (.slice A2 t.regs.length c2), .int .u64 t.ecb, .int .u64 t.ucb] 41)
    have hT : Blk (w1.alloc (.cells #[.string t.name, .int .i64 t.T, .int .i64 t.D, .int .i64 t.mode, .int .i64 t.q, .int .i64 t.theta, (.slice A2 t.regs.length c2), .int .u64 t.ecb, .int .u64 t.ucb] 41)) w1.heap.size #[.string t.name, .int .i64 t.T, .int .i64 t.D, .int .i64 t.mode, .int .i64 t.q, .int .i64 t.theta, (.slice A2 t.regs.length c2), .int .u64 t.ecb, .int .u64 t.ucb] 41 := Blk.new _ _ _
    clear hcB1 y0 y1 y2 y3 y4 y5 y6 y7 y8
    generalize w1.heap.size = g at hT ⊢
    generalize w1.alloc _ = w2 at hX2 hT ⊢
    have hcB2 := (hB.ext hX2).cell
    go_wp2_with (fail)
    refine (HD.out _ hX2).mono ?_
    rintro e w3 ⟨v, rfl, hO3, hb3⟩
    obtain ⟨Av, cv, rfl, _, _⟩ := hO3.form
    have hX3 := hX2.call hb3
    have hT3 := hT.ext ⟨hb3⟩
    have hLd3 := hO3.loads
    clear hcB2 hO3
    have hc3 := fun w' (h : Ext w3 w') => hc w' (hX3.trans h)
    have HW3 := Lib.hid fun w' (h : Ext w3 w') => HW.out w' (hX3.trans h)
    have hTT : 1 ≤ t.T ∧ t.T ≤ 1000000 := by omega
    have hww : 1 ≤ wk ∧ wk ≤ 1000000 := by omega
    obtain ⟨z1, z2, z3, z4, _⟩ := busy_job hlk hTT hww HL.out
    have hjo : ∀ q : Nat, q < jobsN t.T long ↔ (q : Int) * t.T < long := fun q => jobs_iff hTT.1 (by omega) q
    have HJ := Lib.hid hjo
    have HRG := Lib.hid fun (q : Nat) (hq : (q : Int) * t.T < long) => job_range hlk hTT hww HL.out q hq
    have HJL := Lib.hid fun (q : Nat) (hq : (q : Int) * t.T < long) => job_least hlk hTT hww HL.out q hq
    clear hT hb3 hX2 hjo x0 x1 x2 x3 x4 x5 x6 x7 x8 HD HA HW hr hv hB hc hft
    obtain ⟨T, hTe⟩ : ∃ T, T = t.T := ⟨_, rfl⟩
    obtain ⟨D, hDe⟩ : ∃ D, D = t.D := ⟨_, rfl⟩
    rw [← hTe] at HJ HRG HJL hTT H0 HL
    rw [← hDe] at H0
    have HTE := Lib.hid hTe
    have HDE := Lib.hid hDe
    clear hTe hDe
    go_wp2_with (fail)
    go_loopw [12, 13] (fun a q wr => ∃ k : Nat, k ≤ jobsN T long ∧ a = .int .i64 (respL T wk bl ls k) ∧ q = .int .i64 k ∧ Ext w3 wr) (fun _ q _ => jobsN T long - (intOf q).toNat)
    case atStart => exact ⟨0, Nat.zero_le _, rfl, rfl, Ext.refl _⟩
    case round =>
      obtain ⟨k, hk, rfl, rfl, hX⟩ := hrel
      have hcr := hc3 wr hX
      have hWr := HW3.out wr hX
      have hcT := (hT3.ext hX).cell
      rw [← HTE.out, ← HDE.out] at hcT
      by_cases hlt : (k : Int) * T < long
      · have hk1 := (HJ.out k).2 hlt
        have r1 := HRG.out k hlt
        have j1 := HJL.out k hlt
        have p1 := resp_range hlk hTT hww HL.out k hk
        have hst : respL T wk bl ls (k + 1) = max (respL T wk bl ls k) (leastZ (bl + (k + 1) * wk) ls - k * T) := rfl
        have hDC := Lib.hid fun W' (h : Ext w3 W') => least10_any (bl + ((k : Int) + 1) * wk) ls _ W' (hLd3.ext h)
        obtain ⟨j0, _, j2, j3, _, _⟩ := j1
        rw [j0] at hDC
        clear j0
        obtain ⟨m1, hm1⟩ : ∃ m1, (k : Int) * T = m1 := ⟨_, rfl⟩
        obtain ⟨m2, hm2⟩ : ∃ m2, ((k : Int) + 1) * wk = m2 := ⟨_, rfl⟩
        rw [hm1] at hlt r1 hst
        rw [hm2] at r1 hst hDC j2 j3
        generalize leastZ (bl + m2) ls = f2 at hst hDC j2 j3
        generalize respL T wk bl ls k = ra at hst p1 ⊢
        have HST := Lib.hid hst
        clear hst
        have w1 : IntKind.i64.wrap ((k : Int) * T) = m1 := by rw [hm1, IntKind.wrap_i64]; omega
        have w3 : wrap64 ((k : Int) * T) = m1 := by rw [hm1]; unfold wrap64; omega
        have w2 : IntKind.i64.wrap (((k : Int) + 1) * wk) = m2 := by rw [hm2, IntKind.wrap_i64]; omega
        have w4 : wrap64 (((k : Int) + 1) * wk) = m2 := by rw [hm2]; unfold wrap64; omega
        clear hm1 hm2
        go_wp2_with (fail)
        refine hWr.mono ?_
        rintro e w4 ⟨rfl, hb4⟩
        have hX4 := hX.call hb4
        go_wp2_with (fail)
        refine (hDC.out w4 hX4).mono ?_
        rintro e w5 ⟨rfl, hb5⟩
        have hX5 := hX4.call hb5
        have hcT := (hT3.ext hX5).cell
        rw [← HTE.out, ← HDE.out] at hcT
        unfold optN
        go_wp2_with (fail)
        exact ⟨⟨k + 1, hk1, by rw [HST.out], rfl, hX5⟩, by simp [intOf]; omega⟩
      · have hke : k = jobsN T long := Nat.le_antisymm hk (Nat.not_lt.1 (fun h => hlt ((HJ.out k).1 h)))
        have ht := jobs_top (long := long) hTT.1 (by omega)
        rw [← hke] at ht
        obtain ⟨m1, hm1⟩ : ∃ m1, (k : Int) * T = m1 := ⟨_, rfl⟩
        rw [hm1] at hlt ht
        have w1 : IntKind.i64.wrap ((k : Int) * T) = m1 := by rw [hm1, IntKind.wrap_i64]; omega
        have w3 : wrap64 ((k : Int) * T) = m1 := by rw [hm1]; unfold wrap64; omega
        have h0 := H0.out
        rw [← hke] at h0
        generalize respL T wk bl ls k = ra at h0 ⊢
        clear hm1
        have HK := Lib.hid hke
        clear hke
        by_cases hrd : ra ≤ D
        · rw [if_pos hrd] at h0
          have H1 := Lib.hid h0
          clear h0
          go_wp2_with (fail)
          exact bodyPost_ret (v := pairZ (ra, 1)) (by simp [pairZ, results, Tryz.results36, go_sem, *]) rfl ⟨by rw [HWS.out, ← HTE.out, ← HDE.out, H1.out], hL.trans ((hX3.trans hX).below.mono hL.size)⟩
        · rw [if_neg hrd] at h0
          have H1 := Lib.hid h0
          clear h0
          go_wp2_with (fail)
          exact bodyPost_ret (v := pairZ (ra, 2)) (by simp [pairZ, results, Tryz.results36, go_sem, *]) rfl ⟨by rw [HWS.out, ← HTE.out, ← HDE.out, H1.out], hL.trans ((hX3.trans hX).below.mono hL.size)⟩
def respS (s : TSet) (i : Nat) : Int × Int := withS s i (mostS s i)
end Go.Proofs.YtknfdjnbndfboabGreatDoor
