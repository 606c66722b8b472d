/- TolerMode. -/
import Derived.Test.YtknfdjnbndfboaaDoorProg
import Derived.Test.YtknfdjnbndfboaaDoorBase
import Derived.Test.YtknfdjnbndfboaaDoorHeldX
import Derived.Test.YtknfdjnbndfboaaDoorApp
import Derived.Test.YtknfdjnbndfboaaDoorTsk1
import Derived.Test.YtknfdjnbndfboaaDoorTsk3
import Derived.Test.YtknfdjnbndfboaaDoorTskZ
import Derived.Test.YtknfdjnbndfboaaDoorTskP
import Derived.Test.YtknfdjnbndfboaaDoorTskN
import Derived.Test.YtknfdjnbndfboaaDoorTskA
import Derived.Test.YtknfdjnbndfboaaDoorTskO
import Derived.Test.YtknfdjnbndfboaaDoorSetO
import Derived.Test.YtknfdjnbndfboaaDoorRespS
import Derived.Test.YtknfdjnbndfboaaDoorResp
import Derived.Test.YtknfdjnbndfboaaDoorTolA
import Derived.Test.YtknfdjnbndfboaaDoorTolI
import Derived.Test.YtknfdjnbndfboaaDoorTolP
import Derived.Test.YtknfdjnbndfboaaDoorTskN
import Derived.Test.YtknfdjnbndfboaaDoorLaw14k
import Derived.Test.YtknfdjnbndfboaaDoorLaw14a
import Derived.Deep.Cut
import Derived.Lib.Hide
namespace Go.Proofs.YtknfdjnbndfboaaDoor
open Go.RowKit
attribute [local go_sem] setCell_twice ByteArray.toList_eq str_list Ext.alloc Ext.drew
set_option linter.unusedSimpArgs false
set_option maxRecDepth 100000
set_option maxHeartbeats 6400000
attribute [local irreducible] popN

theorem tolerMode_walk (v : Value) (s : TSet) (i k q : Int) (w : World) (hv : ∃ x, v = setV s x ∧ Tasks w x s.tasks ∧ s.fit) (_ : (Lit.int .i64 i).wf = true) (_ : (Lit.int .i64 k).wf = true) (wq : (Lit.int .i64 q).wf = true) (hG : GOK w) :
    Calls Tryd.prog 4 #[v, .int .i64 i, .int .i64 k, .int .i64 q] w fun e w' => e = .returned (.bool true) ∧ Below w.heap.size w w' := by
  obtain ⟨x, rfl, hx, hf⟩ := hv
  have l1 := hx.len
  have hg := hf.good
  have hx0 := hx
  obtain ⟨A, c, rfl, hle, hcm, _⟩ := hx0
  unfold maxLen at hcm
  go_enter Tryd.func4, Tryd.ntmps4
  unfold setV
  go_upto_region 1 with (fail)
  have hL : Below w.heap.size w (w.alloc (.cells #[.int .i64 s.reload, (.slice A s.tasks.length c)] 24)) := (by repeat (first | exact Below.refl _ _ | assumption | refine Below.drew ?_ | refine Below.alloc ?_ (by first | (simp; done) | (simp; omega) | omega) _ | refine Below.setCell ?_ (by first | (simp; done) | (simp; omega) | omega) _)); have hB : Blk (w.alloc (.cells #[.int .i64 s.reload, (.slice A s.tasks.length c)] 24)) w.heap.size #[.int .i64 s.reload, (.slice A s.tasks.length c)] 24 := Blk.new _ _ _
  have hr := hx.ext ⟨hL⟩
  have hG0 := hG.below hL
  generalize w.alloc _ = W at hL hB hr hG0 ⊢
  have hc := hB.under
  have HK := Lib.hid fun (W' : World) (h : Ext W W') => known14_any W' (hG0.below h.below)
  refine wp_region_all' (S := Ext W) (Ext.refl W) (fun K hK => ?_); (repeat (first | (apply hO_and; (· rfl); (· rfl); (· rfl); (· rfl); simp only [Act.put, List.setIfInBounds_toArray, List.set_cons_zero, List.set_cons_succ]) | (apply hO_or; (· rfl); (· rfl); (· rfl); (· rfl); simp only [Act.put, List.setIfInBounds_toArray, List.set_cons_zero, List.set_cons_succ]) | (apply hO_off; (· rfl); (· rfl); simp only [Act.put, List.setIfInBounds_toArray, List.set_cons_zero, List.set_cons_succ]) | (apply hO_val; (· intro w hS; go_simp; with_reducible rfl); (· rfl); simp only [Act.put, List.setIfInBounds_toArray, List.set_cons_zero, List.set_cons_succ]) | (apply hO_call; (· rfl); (· intro w hS; go_simp; exact ⟨rfl, rfl⟩); (· intro w hS; exact callX hS (may14_any s _ _ (hr.ext hS) hg)); simp only [Act.put, List.setIfInBounds_toArray, List.set_cons_zero, List.set_cons_succ]) | (apply hO_if; (· rfl); (· rfl); (· intro hif w hS; go_simp; with_reducible rfl); simp only [Act.put, List.setIfInBounds_toArray, List.set_cons_zero, List.set_cons_succ]) | (apply hO_ifcall; (· rfl); (· rfl); (· intro hif w hS; go_simp; exact ⟨rfl, rfl⟩); (· intro hif w hS; exact callX hS (may14_any s _ _ (hr.ext hS) hg)); simp only [Act.put, List.setIfInBounds_toArray, List.set_cons_zero, List.set_cons_succ]))); refine hO_nil ?_; refine forget_range 14 32 (Nat.le_of_ble_eq_true rfl) (fun junk => ?_); simp only [List.take_succ_cons, List.take_zero, List.drop_succ_cons, List.drop_zero, List.cons_append, List.nil_append, fillF, Nat.reduceAdd]; refine hK _ ?_; clear hK K
  intro w1 hX1
  by_cases hin : may14 s = true ∧ (0 ≤ i ∧ i < s.tasks.length) ∧ (0 ≤ k ∧ k < s.tasks.length) ∧ 0 ≤ q ∧ q ≤ 10000
  · obtain ⟨hm, ⟨h0, h1⟩, ⟨h2, h3⟩, h4, h5⟩ := hin
    have hd : (!may14 s || decide (i < 0) || decide ((s.tasks.length : Int) ≤ i) || decide (k < 0) || decide ((s.tasks.length : Int) ≤ k) || decide (q < 0) || decide (10000 < q)) = false := by rw [hm]; simp; omega
    rw [hd]
    clear hd
    obtain ⟨i, rfl⟩ := Int.eq_ofNat_of_zero_le h0
    obtain ⟨k, rfl⟩ := Int.eq_ofNat_of_zero_le h2
    have hi : i < s.tasks.length := by omega
    have hk : k < s.tasks.length := by omega
    have hal := may14_all hm
    have hs := fine_of hal hf
    have hal2 : allB (s.at k (modedT 1 q 0)) = true := moded_all k (fun t => by
      have e : modeB (modedT 1 q 0 t) k = ((decide (q ≥ 0) && decide (q ≤ 10000)) && ((0 : Int) == 0)) := rfl
      rw [e]
      simp
      omega) hal
    have hf2 := moded_fit hf k (m := 1) (q := q) (th := 0) (by decide) wq (by decide)
    have hto := (moded_leaner s k 1 q 0).tolO (moded_work s k 1 q 0) (fine_of hal2 hf2) hs hi
    rw [← tolI_in hal hi, ← tolI_in hal2 (by rw [s.at_len]; exact hi)] at hto
    obtain ⟨n, ok, hn⟩ := optN_tup (tolI s i)
    have HO := Lib.hid fun (W' : World) (h : Ext W W') => tolerOf_any s (.slice A s.tasks.length c) i W' (hr.ext h) hf (hG0.below h.below)
    have HO2 := Lib.hid fun (v' : Value) (W' : World) (hv : Tasks W' v' (s.at k (modedT 1 q 0)).tasks) (h : Ext W W') => tolerOf_any (s.at k (modedT 1 q 0)) v' i W' hv hf2 (hG0.below h.below)
    rw [hto, hn] at HO2
    rw [hn] at HO
    clear hm hal hs hal2 hf2 hto hn
    have hc1 := hc w1 hX1
    go_wp2_with (fail)
    refine (put_any s _ _ (hr.ext hX1) hf).mono ?_
    rintro e w2 ⟨v2, ps, rfl, hP, hps, hbel⟩
    have hnl : ps.length = s.tasks.length := by rw [← hps, List.length_map]
    obtain ⟨g, c2, rfl, hg1, hg2⟩ := hP.head (by intro e; rw [e] at hnl; simp at hnl; omega)
    unfold setV
    dsimp only
    clear hc1
    go_upto_region 4 with (fail)
    have hkp : k < ps.length := by omega
    obtain ⟨⟨t0, r0⟩, hp0⟩ : ∃ p, ps[k] = p := ⟨_, rfl⟩
    have hBS : BoxS w1 w2.heap.size #[.int .i64 s.reload, .slice (some ⟨g, 0, none⟩) ps.length c2] 24 (w2.alloc (.cells #[.int .i64 s.reload, .slice (some ⟨g, 0, none⟩) ps.length c2] 24)) := ⟨(Ext.mk hbel).alloc _, Blk.new _ _ _⟩
    have hP := hP.ext ((Ext.refl w2).alloc (.cells #[.int .i64 s.reload, .slice (some ⟨g, 0, none⟩) ps.length c2] 24))
    have hne : w2.heap.size ≠ g := Nat.ne_of_gt hg2
    rw [hnl] at hBS hP ⊢
    generalize w2.alloc _ = W4 at hBS hP ⊢
    generalize w2.heap.size = gb at hBS hne ⊢
    have hSA : ∀ a, BoxS w1 gb #[.int .i64 s.reload, .slice (some ⟨g, 0, none⟩) s.tasks.length c2] 24 a → ∀ j, a.cell? ⟨gb, j, none⟩ = #[.int .i64 s.reload, .slice (some ⟨g, 0, none⟩) s.tasks.length c2][j]? := fun a h => h.at
    refine wp_region_mix (T := [12, 15, 18]) (S := BoxS w1 gb #[.int .i64 s.reload, .slice (some ⟨g, 0, none⟩) s.tasks.length c2] 24) (W := W4) (fun _ _ h hx => h.ext hx) (by kernel_rfl) (by kernel_rfl) (Ext.refl _).drew hBS (fun _ _ h => h) (fun K hK => ?_)
    (repeat (first | (refine hX_skip ?_ ?_; (· rfl)) | (apply hX_and; (· rfl); (· rfl); (· rfl); (· rfl); (· rfl); simp only [Act.put, List.setIfInBounds_toArray, List.set_cons_zero, List.set_cons_succ]) | (apply hX_or; (· rfl); (· rfl); (· rfl); (· rfl); (· rfl); simp only [Act.put, List.setIfInBounds_toArray, List.set_cons_zero, List.set_cons_succ]) | (apply hX_off; (· rfl); (· rfl); (· rfl); simp only [Act.put, List.setIfInBounds_toArray, List.set_cons_zero, List.set_cons_succ]) | (apply hX_val; (· rfl); (· intro w hS; go_simp; with_reducible rfl); (· rfl); simp only [Act.put, List.setIfInBounds_toArray, List.set_cons_zero, List.set_cons_succ]) | (apply hX_call; (· rfl); (· rfl); (· intro w hS; go_simp; exact ⟨rfl, rfl⟩); (· intro w hS; fail); simp only [Act.put, List.setIfInBounds_toArray, List.set_cons_zero, List.set_cons_succ]) | (apply hX_if; (· rfl); (· rfl); (· rfl); (· intro hif w hS; go_simp; with_reducible rfl); simp only [Act.put, List.setIfInBounds_toArray, List.set_cons_zero, List.set_cons_succ]) | (apply hX_ifcall; (· rfl); (· rfl); (· rfl); (· intro hif w hS; go_simp; exact ⟨rfl, rfl⟩); (· intro hif w hS; fail); simp only [Act.put, List.setIfInBounds_toArray, List.set_cons_zero, List.set_cons_succ]))); refine hX_nil ?_
    refine hK _ ?_
    clear hK K
    refine wpX_want (i := 12) (by kernel_rfl) rfl (by simp [Region.wanted, yielded]) ?_; intro w' hx K hK; have hPx := hP.ext hx; have hSx2 := hBS.ext hx; obtain ⟨⟨u0, e1⟩, e2⟩ := hPx.cellS (i := k) (k := 3) (by simpa using hkp) (by decide); clear hP hBS; go_simp; have hBS := hSx2.set (i := k * 9 + 3) hg1 hne (.int .i64 1); have hP := hPx.stored2 (i := k) (k := 3) (u := .int .i64 1) (t := modedT 1 t0.q t0.theta t0) (t0 := t0) (r := r0) (by simpa using hkp) (by decide) (hp0) (by simp [encT, modedT]) rfl; refine hK _ _ hBS ?_; clear hK K hx e1 e2 hPx hSx2
    refine wpX_want (i := 15) (by kernel_rfl) rfl (by simp [Region.wanted, yielded]) ?_; intro w' hx K hK; have hPx := hP.ext hx; have hSx2 := hBS.ext hx; obtain ⟨⟨u0, e1⟩, e2⟩ := hPx.cellS (i := k) (k := 4) (by simpa using hkp) (by decide); clear hP hBS; go_simp; have hBS := hSx2.set (i := k * 9 + 4) hg1 hne (.int .i64 q); have hP := hPx.stored2 (i := k) (k := 4) (u := .int .i64 q) (t := modedT 1 q t0.theta t0) (t0 := modedT 1 t0.q t0.theta t0) (r := r0) (by simpa using hkp) (by decide) (by simp) (by simp [encT, modedT]) rfl; refine hK _ _ hBS ?_; clear hK K hx e1 e2 hPx hSx2
    refine wpX_want (i := 18) (by kernel_rfl) rfl (by simp [Region.wanted, yielded]) ?_; intro w' hx K hK; have hPx := hP.ext hx; have hSx2 := hBS.ext hx; obtain ⟨⟨u0, e1⟩, e2⟩ := hPx.cellS (i := k) (k := 5) (by simpa using hkp) (by decide); clear hP hBS; go_simp; have hBS := hSx2.set (i := k * 9 + 5) hg1 hne (.int .i64 0); have hP := hPx.stored2 (i := k) (k := 5) (u := .int .i64 0) (t := modedT 1 q 0 t0) (t0 := modedT 1 q t0.theta t0) (r := r0) (by simpa using hkp) (by decide) (by simp) (by simp [encT, modedT]) rfl; refine hK _ _ hBS ?_; clear hK K hx e1 e2 hPx hSx2
    rw [List.set_set, List.set_set] at hP
    refine wpX_done (by kernel_rfl) (fun w5 hx5 => ?_) _
    have hP5 := hP.ext hx5
    have hB5 := hBS.ext hx5
    have hT5 := hP5.tasks
    rw [map_at hkp hp0, hps] at hT5
    have hX5 := hX1.trans hB5.1
    have hc5 := hc w5 hX5
    clear hP hP5 hBS hSA hx5
    go_wp2_with (fail)
    refine (HO.out w5 hX5).mono ?_
    rintro e w6 ⟨rfl, hb6⟩
    have hX6 := hX5.call hb6
    have hcb6 := (hB5.ext ⟨hb6⟩).at
    clear hc5
    go_wp2_with (fail)
    refine (HO2.out _ w6 (hT5.ext ⟨hb6⟩) hX6).mono ?_
    rintro e w7 ⟨rfl, hb7⟩
    have hX7 := hX6.call hb7
    clear hcb6
    go_wp2_with (fail)
    refine (HK.out w7 hX7).mono ?_
    rintro e w8 ⟨rfl, hb8⟩
    go_wp2_with (fail)
    go_ret
    exact ⟨rfl, hL.trans ((hX7.call hb8).below.mono hL.size)⟩
  · have hd : (!may14 s || decide (i < 0) || decide ((s.tasks.length : Int) ≤ i) || decide (k < 0) || decide ((s.tasks.length : Int) ≤ k) || decide (q < 0) || decide (10000 < q)) = true := by
      cases hm : may14 s with
      | false => simp
      | true =>
        rw [hm] at hin
        simp only [true_and] at hin
        simp
        omega
    rw [hd]
    go_wp2_with (fail)
    go_ret
    exact ⟨rfl, hL.trans (hX1.below.mono hL.size)⟩
end Go.Proofs.YtknfdjnbndfboaaDoor
