/- active: Loads, Of; ref11: Loads, Of. -/
import Derived.Test.YtknfdjnbndfboabGreatDoorProg
import Derived.Test.YtknfdjnbndfboabGreatDoorBase
import Derived.Test.YtknfdjnbndfboabGreatDoorHeldX
import Derived.Test.YtknfdjnbndfboabGreatDoorApp
import Derived.Test.YtknfdjnbndfboabGreatDoorTsk1
import Derived.Test.YtknfdjnbndfboabGreatDoorTsk3
import Derived.Test.YtknfdjnbndfboabGreatDoorTskZ
import Derived.Test.YtknfdjnbndfboabGreatDoorTskP
import Derived.Test.YtknfdjnbndfboabGreatDoorRespS
import Derived.Test.YtknfdjnbndfboabGreatDoorAgain
import Derived.Test.YtknfdjnbndfboabGreatDoorCst
import Derived.Test.YtknfdjnbndfboabGreatDoorNumP
import Derived.Test.YtknfdjnbndfboabGreatDoorLoadW
import Derived.Test.YtknfdjnbndfboabGreatDoorFix
import Derived.Test.YtknfdjnbndfboabGreatDoorR10
import Derived.Test.YtknfdjnbndfboabGreatDoorRef8
import Derived.Deep.Cut
import Derived.Lib.Hide
namespace Go.Proofs.YtknfdjnbndfboabGreatDoor
open Go.RowKit
attribute [local go_sem] setCell_twice ByteArray.toList_eq str_list Ext.alloc Ext.drew
set_option linter.unusedSimpArgs false
set_option maxRecDepth 100000
set_option maxHeartbeats 6400000
attribute [local irreducible] popN

theorem infoLoad : (Tryz.prog.info? 79).map (fun i => (i.zero, i.size, i.bytes)) = some (some (.agg #[.int .i64 0, .int .i64 0]), 2, 16) := by kernel_rfl
theorem encLd_one (p : Ld) : ∀ u ∈ encLd p, u.oneCell' = true := by
  intro u hu
  simp only [encLd, List.mem_cons, List.not_mem_nil, or_false] at hu
  rcases hu with rfl | rfl <;> rfl
theorem actLoads_any (s : TSet) (v : Value) (i : Nat) (w : World) (hv : Tasks w v s.tasks) (hs : Fine s) (hi : i < s.tasks.length) :
    Calls Tryz.prog 55 #[setV s v, .int .i64 i] w fun e w' => ∃ v', e = .returned v' ∧ OwnL encLd w' w.heap.size 79 2 v' (loadsS s i) ∧ Below w.heap.size w w' := by
  have l1 := hv.len
  have hlen := hs.len
  have hv0 := hv
  obtain ⟨A, c, rfl, hle, hcm, _⟩ := hv0
  unfold maxLen at hcm
  go_enter Tryz.func55, Tryz.ntmps55
  unfold setV
  go_upto_region 1 with (fail)
  have hL : Below w.heap.size w (w.alloc (.cells #[.int .i64 s.reload, (.slice A s.tasks.length c)] 24)) := (by repeat (first | exact Below.refl _ _ | assumption | refine Below.drew ?_ | refine Below.alloc ?_ (by first | (simp; done) | (simp; omega) | omega) _ | refine Below.setCell ?_ (by first | (simp; done) | (simp; omega) | omega) _)); have hB : Blk (w.alloc (.cells #[.int .i64 s.reload, (.slice A s.tasks.length c)] 24)) w.heap.size #[.int .i64 s.reload, (.slice A s.tasks.length c)] 24 := Blk.new _ _ _
  have hr := hv.ext ⟨hL⟩
  generalize w.alloc _ = W at hL hB hr ⊢
  have hc := hB.under
  refine wp_region_all' (S := Ext W) (Ext.refl W) (fun K hK => ?_); (repeat (first | (apply hO_and; (· rfl); (· rfl); (· rfl); (· rfl); simp only [Act.put, List.setIfInBounds_toArray, List.set_cons_zero, List.set_cons_succ]) | (apply hO_or; (· rfl); (· rfl); (· rfl); (· rfl); simp only [Act.put, List.setIfInBounds_toArray, List.set_cons_zero, List.set_cons_succ]) | (apply hO_off; (· rfl); (· rfl); simp only [Act.put, List.setIfInBounds_toArray, List.set_cons_zero, List.set_cons_succ]) | (apply hO_val; (· intro w hS; go_simp; with_reducible rfl); (· rfl); simp only [Act.put, List.setIfInBounds_toArray, List.set_cons_zero, List.set_cons_succ]) | (apply hO_call; (· rfl); (· intro w hS; go_simp; exact ⟨rfl, rfl⟩); (· intro w hS; fail); simp only [Act.put, List.setIfInBounds_toArray, List.set_cons_zero, List.set_cons_succ]) | (apply hO_if; (· rfl); (· rfl); (· intro hif w hS; go_simp; with_reducible rfl); simp only [Act.put, List.setIfInBounds_toArray, List.set_cons_zero, List.set_cons_succ]) | (apply hO_ifcall; (· rfl); (· rfl); (· intro hif w hS; go_simp; exact ⟨rfl, rfl⟩); (· intro hif w hS; fail); simp only [Act.put, List.setIfInBounds_toArray, List.set_cons_zero, List.set_cons_succ]))); refine hO_nil ?_; refine forget_range 12 8 (Nat.le_of_ble_eq_true rfl) (fun junk => ?_); simp only [List.take_succ_cons, List.take_zero, List.drop_succ_cons, List.drop_zero, List.cons_append, List.nil_append, fillF, Nat.reduceAdd]; refine hK _ ?_; clear hK K
  intro w1 hX1
  have hd : (decide ((i : Int) < 0) || decide (s.tasks.length ≤ i)) = false := by simp; omega
  rw [hd]
  obtain ⟨b, o, r, rfl, hx⟩ := hr.at hi
  clear hx
  have hc1 := (hB.ext hX1).cell
  go_wp2_with (fail)
  clear hc1
  go_loopw [5, 26] (fun l k wr => ∃ (q : Nat), q ≤ i ∧ k = .int .i64 q ∧ OwnL encLd wr W.heap.size 79 2 l (loadsS s q) ∧ Ext W wr) (fun _ k _ => i - (intOf k).toNat)
  case atStart => exact ⟨0, Nat.zero_le _, rfl, OwnL.nil, hX1⟩
  case round =>
    obtain ⟨q, hq, rfl, hO, hX⟩ := hrel
    by_cases hlt : q < i
    · obtain ⟨b2, o2, r2, e, hx⟩ := hr.at (k := q) (by omega)
      obtain ⟨rfl, rfl⟩ : b2 = b ∧ o2 = o := by cases e; exact ⟨rfl, rfl⟩
      have hql : q < s.tasks.length := by omega
      have hft := hs.at q hql
      have hla := loadAt_in s hql
      have hma := (madeN_eq s q hql hs.reload).2
      have hwk := hft.work
      have htm := hft.time
      obtain ⟨n, hn⟩ := Int.eq_ofNat_of_zero_le (show 0 ≤ workL s.tasks[q].regs by omega)
      have HC := Lib.hid fun W' (hW' : Ext W W') => cost_any s (.slice (some ⟨b2, o2, none⟩) s.tasks.length c) q W' (hr.ext hW') hs.plain hql n hn (by omega)
      rw [hn] at hla hwk
      generalize madeN s q hql = m at HC hla hma
      rw [← Int.natCast_add] at hla
      have hrow := hx.row
      generalize s.tasks[q] = t at hx hla hwk htm hrow
      have HLA := Lib.hid hla
      clear hla hft hn
      obtain ⟨A2, c2, rfl⟩ := hrow
      obtain ⟨x0, x1, x2, x3, x4, x5, x6, x7, x8⟩ := hx.under
      have hcr := (hB.ext hX).cell
      go_upto_region 7 with (fail)
      have hE5 := (Ext.refl wr).alloc (.cells #[.string t.name, .int .i64 t.T, .int .i64 t.D, .int .i64 t.mode, .int .i64 t.q, .int .i64 t.theta, (.slice A2 t.regs.length c2), .int .u64 t.ecb, .int .u64 t.ucb] 41)
      have hB5 : Blk (wr.alloc (.cells #[.string t.name, .int .i64 t.T, .int .i64 t.D, .int .i64 t.mode, .int .i64 t.q, .int .i64 t.theta, (.slice A2 t.regs.length c2), .int .u64 t.ecb, .int .u64 t.ucb] 41)) wr.heap.size #[.string t.name, .int .i64 t.T, .int .i64 t.D, .int .i64 t.mode, .int .i64 t.q, .int .i64 t.theta, (.slice A2 t.regs.length c2), .int .u64 t.ecb, .int .u64 t.ucb] 41 := Blk.new _ _ _
      clear hcr x0 x1 x2 x3 x4 x5 x6 x7 x8
      generalize wr.alloc _ = W5 at hE5 hB5 ⊢
      generalize wr.heap.size = g5 at hB5 ⊢
      have hO5 := hO.below hE5.below
      have hX5 := hX.trans hE5
      have hc5 := (hB.ext hX5).cell
      have hC5 := HC.out W5 hX5
      go_wp2_with (fail)
      refine hC5.mono ?_
      rintro e w6 ⟨rfl, hb6⟩
      have hX6 := hX5.call hb6
      have hO6 := hO5.below hb6
      have hc6 := (hB5.ext ⟨hb6⟩).cell
      have hk6 : (loadsS s q).length = q := loadsS_len s q
      have hsucc := loadsS_succ s q
      rw [HLA.out] at hsucc
      have HSU := Lib.hid hsucc
      clear hsucc hc5 hC5 HC hb6 hB5 hE5 hO5 hO
      generalize loadsS s q = ls at hO6 hk6 HSU
      have HK := Lib.hid hk6
      clear hk6
      obtain ⟨Av, cv, rfl, _, _⟩ := hO6.form
      go_wp2_with (fail)
      refine (total_any n m (by omega) _).mono ?_
      rintro e w7 ⟨rfl, rfl⟩
      have hbase : W.heap.size ≤ w6.heap.size := hX6.size
      go_wp2_with (at_builtin; (refine wpList_push rfl _ _ 70 rfl W.heap.size 79 Tryz.underlying70 infoLoad rfl (by decide) (by decide) encLd ls _ rfl (hO6.alloc _) (t.T, ((n + m : Nat) : Int)) w6.heap.size #[.int .i64 t.T, .int .i64 (n + m : Nat)] 79 rfl (Blk.new _ _ _) rfl rfl (encLd_one _) ?_ ?_ ?_; (· have := HK.out; omega); (· simp; omega); (intro v2 w8 hown hg hloc _)))
      have hX8 : Ext W w8 := (hX6.alloc (.cells #[.int .i64 t.T, .int .i64 (n + m : Nat)] 79)).grown hg (fun j hj => (hO6.lt j hj).1)
      exact ⟨⟨q + 1, hlt, rfl, by rw [HSU.out]; exact hown, hX8⟩, by simp [intOf]; omega⟩
    · have hqi : q = i := Nat.le_antisymm hq (Nat.not_lt.1 hlt)
      subst hqi
      go_wp2_with (fail)
      go_ret
      exact ⟨_, rfl, hO.lower hL.size, hL.trans (hX.below.mono hL.size)⟩
theorem optN_tup (x : Option Int) : ∃ n ok, optN x = .tuple #[.int .i64 n, .bool ok] := by cases x <;> exact ⟨_, _, rfl⟩
theorem actOf_any (s : TSet) (v : Value) (i : Nat) (bl : Int) (w : World) (hv : Tasks w v s.tasks) (hs : Fine s) (hi : i < s.tasks.length) :
    Calls Tryz.prog 54 #[setV s v, .int .i64 i, .int .i64 bl] w fun e w' => e = .returned (optN (least bl (loadsS s i ++ [(s.tasks[i].T, workL s.tasks[i].regs)]))) ∧ Below w.heap.size w w' := by
  have l1 := hv.len
  have hlen := hs.len
  have hv0 := hv
  obtain ⟨A, c, rfl, hle, hcm, _⟩ := hv0
  unfold maxLen at hcm
  go_enter Tryz.func54, Tryz.ntmps54
  unfold setV
  go_upto_region 1 with (fail)
  have hL : Below w.heap.size w (w.alloc (.cells #[.int .i64 s.reload, (.slice A s.tasks.length c)] 24)) := (by repeat (first | exact Below.refl _ _ | assumption | refine Below.drew ?_ | refine Below.alloc ?_ (by first | (simp; done) | (simp; omega) | omega) _ | refine Below.setCell ?_ (by first | (simp; done) | (simp; omega) | omega) _)); have hB : Blk (w.alloc (.cells #[.int .i64 s.reload, (.slice A s.tasks.length c)] 24)) w.heap.size #[.int .i64 s.reload, (.slice A s.tasks.length c)] 24 := Blk.new _ _ _
  have hr := hv.ext ⟨hL⟩
  generalize w.alloc _ = W at hL hB hr ⊢
  have hc := hB.under
  refine wp_region_all' (S := Ext W) (Ext.refl W) (fun K hK => ?_); (repeat (first | (apply hO_and; (· rfl); (· rfl); (· rfl); (· rfl); simp only [Act.put, List.setIfInBounds_toArray, List.set_cons_zero, List.set_cons_succ]) | (apply hO_or; (· rfl); (· rfl); (· rfl); (· rfl); simp only [Act.put, List.setIfInBounds_toArray, List.set_cons_zero, List.set_cons_succ]) | (apply hO_off; (· rfl); (· rfl); simp only [Act.put, List.setIfInBounds_toArray, List.set_cons_zero, List.set_cons_succ]) | (apply hO_val; (· intro w hS; go_simp; with_reducible rfl); (· rfl); simp only [Act.put, List.setIfInBounds_toArray, List.set_cons_zero, List.set_cons_succ]) | (apply hO_call; (· rfl); (· intro w hS; go_simp; exact ⟨rfl, rfl⟩); (· intro w hS; fail); simp only [Act.put, List.setIfInBounds_toArray, List.set_cons_zero, List.set_cons_succ]) | (apply hO_if; (· rfl); (· rfl); (· intro hif w hS; go_simp; with_reducible rfl); simp only [Act.put, List.setIfInBounds_toArray, List.set_cons_zero, List.set_cons_succ]) | (apply hO_ifcall; (· rfl); (· rfl); (· intro hif w hS; go_simp; exact ⟨rfl, rfl⟩); (· intro hif w hS; fail); simp only [Act.put, List.setIfInBounds_toArray, List.set_cons_zero, List.set_cons_succ]))); refine hO_nil ?_; refine forget_range 8 8 (Nat.le_of_ble_eq_true rfl) (fun junk => ?_); simp only [List.take_succ_cons, List.take_zero, List.drop_succ_cons, List.drop_zero, List.cons_append, List.nil_append, fillF, Nat.reduceAdd]; refine hK _ ?_; clear hK K
  intro w1 hX1
  have hd : (decide ((i : Int) < 0) || decide (s.tasks.length ≤ i)) = false := by simp; omega
  rw [hd]
  obtain ⟨b, o, r, rfl, hx⟩ := hr.at hi
  have HA := Lib.hid fun W' (hW' : Ext W W') => actLoads_any s (.slice (some ⟨b, o, none⟩) s.tasks.length c) i W' (hr.ext hW') hs hi
  have HW := Lib.hid fun W' (h2 : Ext W W') => work_any s.tasks[i] r W' (hx.1.ext h2)
  have hrow := hx.row
  have hlm := loadsS_len s i
  obtain ⟨n, ok, hle⟩ := optN_tup (least bl (loadsS s i ++ [(s.tasks[i].T, workL s.tasks[i].regs)]))
  have HF := Lib.hid hle
  generalize s.tasks[i] = t at hx hrow HW hle
  generalize loadsS s i = ls at HA hlm hle
  unfold tskV at HW
  obtain ⟨A2, c2, rfl⟩ := hrow
  obtain ⟨x0, x1, x2, x3, x4, x5, x6, x7, x8⟩ := hx.under
  generalize workL t.regs = wk at HW hle
  have HLE := Lib.hid hle
  clear hle hx
  go_upto_region 3 with (fail)
  refine wp_region_mix (T := [3, 17, 18, 19, 20, 21, 22, 23]) (S := Ext W) (W := w1) (Ext.mono W) (by kernel_rfl) (by kernel_rfl) (Ext.refl w1).drew hX1 (fun _ _ h => h) (fun K hK => ?_)
  (repeat (first | (refine hX_skip ?_ ?_; (· rfl)) | (apply hX_and; (· rfl); (· rfl); (· rfl); (· rfl); (· rfl); simp only [Act.put, List.setIfInBounds_toArray, List.set_cons_zero, List.set_cons_succ]) | (apply hX_or; (· rfl); (· rfl); (· rfl); (· rfl); (· rfl); simp only [Act.put, List.setIfInBounds_toArray, List.set_cons_zero, List.set_cons_succ]) | (apply hX_off; (· rfl); (· rfl); (· rfl); simp only [Act.put, List.setIfInBounds_toArray, List.set_cons_zero, List.set_cons_succ]) | (apply hX_val; (· rfl); (· intro w hS; go_simp; with_reducible rfl); (· rfl); simp only [Act.put, List.setIfInBounds_toArray, List.set_cons_zero, List.set_cons_succ]) | (apply hX_call; (· rfl); (· rfl); (· intro w hS; go_simp; exact ⟨rfl, rfl⟩); (· intro w hS; exact callXX (HW.out _ hS)); simp only [Act.put, List.setIfInBounds_toArray, List.set_cons_zero, List.set_cons_succ]) | (apply hX_if; (· rfl); (· rfl); (· rfl); (· intro hif w hS; go_simp; with_reducible rfl); simp only [Act.put, List.setIfInBounds_toArray, List.set_cons_zero, List.set_cons_succ]) | (apply hX_ifcall; (· rfl); (· rfl); (· rfl); (· intro hif w hS; go_simp; exact ⟨rfl, rfl⟩); (· intro hif w hS; exact callXX (HW.out _ hS)); simp only [Act.put, List.setIfInBounds_toArray, List.set_cons_zero, List.set_cons_succ]))); refine hX_nil ?_
  refine hK _ ?_
  clear hK K
  refine wpX_two (i := 3) (j := 17) (by kernel_rfl) rfl rfl rfl rfl ?_ ?_
  · intro w2 hx2 K hK
    go_simp
    refine (HA.out _ (hX1.trans hx2)).mono ?_
    rintro e w3 ⟨v3, rfl, hO3, hb3⟩
    have hX3 := (hX1.trans hx2).call hb3
    refine hK _ _ hX3 ?_
    clear hK K
    have hO3 := hO3.lower (hX1.trans hx2).size
    refine wpX_want (i := 17) (by kernel_rfl) rfl (by simp [Region.wanted, yielded]) ?_
    intro w4 hx4 K hK
    go_simp
    have hX4 := (hX3.trans hx4).alloc (.cells #[.int .i64 t.T, .int .i64 wk] 79)
    have hO4 := (hO3.below hx4.below).alloc (.cells #[.int .i64 t.T, .int .i64 wk] 79)
    have hB4 : Blk (w4.alloc (.cells #[.int .i64 t.T, .int .i64 wk] 79)) w4.heap.size #[.int .i64 t.T, .int .i64 wk] 79 := Blk.new _ _ _
    refine hK _ _ hX4 ?_
    clear hK K hx4 hx2 hO3 hX3 hb3
    generalize w4.heap.size = g4 at hB4 ⊢
    generalize w4.alloc _ = W4 at hB4 hO4 hX4 ⊢
    refine wpX_want (i := 18) (by kernel_rfl) rfl (by simp [Region.wanted, yielded]) ?_; intro w5 hx5 K hK; refine wp_push _ _ 70 rfl W.heap.size 79 Tryz.underlying70 infoLoad rfl (by decide) (by decide) encLd ls _ rfl (hO4.below hx5.below) (t.T, wk) g4 #[.int .i64 t.T, .int .i64 wk] 79 rfl (hB4.ext hx5) rfl rfl (encLd_one _) (by omega) (hX4.trans hx5).size ?_; intro v6 w6 hown hg hloc _; have hX6 : Ext W w6 := (hX4.trans hx5).grown hg (fun j hj => (hO4.lt j hj).1); refine hK _ _ hX6 ?_; clear hK K hg hloc hx5 hX4 hO4 hB4
    refine wpX_want (i := 19) (by kernel_rfl) rfl (by simp [Region.wanted, yielded]) ?_; intro w7 hx7 K hK; go_simp; refine (leastFix_any bl (ls ++ [(t.T, wk)]) v6 _ (hown.below hx7.below).loads).mono ?_; rintro e w8 ⟨rfl, hb8⟩; have hX8 := (hX6.trans hx7).call hb8; refine hK _ _ hX8 ?_; clear hK K hx7 hX6 hb8 hown; rw [HLE.out]
    refine wpX_pure2 (i := 20) (j := 21) (by kernel_rfl) rfl rfl rfl rfl (.int .i64 n) (.bool ok) (by intro w; go_simp) (by intro w; go_simp) (by intro w; go_simp) (by intro w; go_simp) rfl (by kernel_rfl) (by kernel_rfl) (by kernel_rfl) (fun w' hx => Ext.trans hX8 hx) ?_; intro w' hx; have hN := Ext.trans hX8 hx; clear hx hX8; simp only [Act.put, List.setIfInBounds_toArray, List.set_cons_zero, List.set_cons_succ]
    refine wpX_want (i := 22) (by kernel_rfl) rfl (by simp [Region.wanted, yielded]) ?_; intro w' hx K hK; go_simp; have hN : Ext W w' := Ext.trans (by assumption) hx; refine hK _ _ hN ?_; clear hK K hx
    refine wpX_want (i := 23) (by kernel_rfl) rfl (by simp [Region.wanted, yielded]) ?_; intro w' hx K hK; go_simp; have hN : Ext W w' := Ext.trans (by assumption) hx; refine hK _ _ hN ?_; clear hK K hx
    refine wpX_done (by kernel_rfl) (fun w9 hx9 => ?_) _
    go_wp2_with (fail)
    exact bodyPost_ret (v := .tuple #[.int .i64 n, .bool ok]) (by simp [results, Tryz.results54, go_sem, *]) rfl ⟨by rw [HF.out], hL.trans ((Ext.below (Ext.trans (by assumption) hx9)).mono hL.size)⟩
  · intro w2 hx2 K hK
    go_simp
    have hX3 := (hX1.trans hx2).alloc (.cells #[.int .i64 t.T, .int .i64 wk] 79)
    have hB3 : Blk (w2.alloc (.cells #[.int .i64 t.T, .int .i64 wk] 79)) w2.heap.size #[.int .i64 t.T, .int .i64 wk] 79 := Blk.new _ _ _
    refine hK _ _ hX3 ?_
    clear hK K hx2
    generalize w2.heap.size = g4 at hB3 ⊢
    generalize w2.alloc _ = W3 at hB3 hX3 ⊢
    refine wpX_want (i := 3) (by kernel_rfl) rfl (by simp [Region.wanted, yielded]) ?_
    intro w4 hx4 K hK
    go_simp
    refine (HA.out _ (hX3.trans hx4)).mono ?_
    rintro e w5 ⟨v3, rfl, hO4, hb4⟩
    have hX4 := (hX3.trans hx4).call hb4
    have hO4 := hO4.lower (hX3.trans hx4).size
    have hB4 := (hB3.ext hx4).ext ⟨hb4⟩
    refine hK _ _ hX4 ?_
    clear hK K hx4 hX3 hB3 hb4
    refine wpX_want (i := 18) (by kernel_rfl) rfl (by simp [Region.wanted, yielded]) ?_; intro w5 hx5 K hK; refine wp_push _ _ 70 rfl W.heap.size 79 Tryz.underlying70 infoLoad rfl (by decide) (by decide) encLd ls _ rfl (hO4.below hx5.below) (t.T, wk) g4 #[.int .i64 t.T, .int .i64 wk] 79 rfl (hB4.ext hx5) rfl rfl (encLd_one _) (by omega) (hX4.trans hx5).size ?_; intro v6 w6 hown hg hloc _; have hX6 : Ext W w6 := (hX4.trans hx5).grown hg (fun j hj => (hO4.lt j hj).1); refine hK _ _ hX6 ?_; clear hK K hg hloc hx5 hX4 hO4 hB4
    refine wpX_want (i := 19) (by kernel_rfl) rfl (by simp [Region.wanted, yielded]) ?_; intro w7 hx7 K hK; go_simp; refine (leastFix_any bl (ls ++ [(t.T, wk)]) v6 _ (hown.below hx7.below).loads).mono ?_; rintro e w8 ⟨rfl, hb8⟩; have hX8 := (hX6.trans hx7).call hb8; refine hK _ _ hX8 ?_; clear hK K hx7 hX6 hb8 hown; rw [HLE.out]
    refine wpX_pure2 (i := 20) (j := 21) (by kernel_rfl) rfl rfl rfl rfl (.int .i64 n) (.bool ok) (by intro w; go_simp) (by intro w; go_simp) (by intro w; go_simp) (by intro w; go_simp) rfl (by kernel_rfl) (by kernel_rfl) (by kernel_rfl) (fun w' hx => Ext.trans hX8 hx) ?_; intro w' hx; have hN := Ext.trans hX8 hx; clear hx hX8; simp only [Act.put, List.setIfInBounds_toArray, List.set_cons_zero, List.set_cons_succ]
    refine wpX_want (i := 22) (by kernel_rfl) rfl (by simp [Region.wanted, yielded]) ?_; intro w' hx K hK; go_simp; have hN : Ext W w' := Ext.trans (by assumption) hx; refine hK _ _ hN ?_; clear hK K hx
    refine wpX_want (i := 23) (by kernel_rfl) rfl (by simp [Region.wanted, yielded]) ?_; intro w' hx K hK; go_simp; have hN : Ext W w' := Ext.trans (by assumption) hx; refine hK _ _ hN ?_; clear hK K hx
    refine wpX_done (by kernel_rfl) (fun w9 hx9 => ?_) _
    go_wp2_with (fail)
    exact bodyPost_ret (v := .tuple #[.int .i64 n, .bool ok]) (by simp [results, Tryz.results54, go_sem, *]) rfl ⟨by rw [HF.out], hL.trans ((Ext.below (Ext.trans (by assumption) hx9)).mono hL.size)⟩
theorem refLoads_any (s : TSet) (v : Value) (i : Nat) (w : World) (hv : Tasks w v s.tasks) (hs : Fine s) (hi : i < s.tasks.length) :
    Calls Tryz.prog 48 #[setV s v, .int .i64 i] w fun e w' => ∃ v', e = .returned v' ∧ OwnL encLd w' w.heap.size 79 2 v' (loadsS s i) ∧ Below w.heap.size w w' := by
  have l1 := hv.len
  have hlen := hs.len
  have hv0 := hv
  obtain ⟨A, c, rfl, hle, hcm, _⟩ := hv0
  unfold maxLen at hcm
  go_enter Tryz.func48, Tryz.ntmps48
  unfold setV
  go_upto_region 1 with (fail)
  have hL : Below w.heap.size w (w.alloc (.cells #[.int .i64 s.reload, (.slice A s.tasks.length c)] 24)) := (by repeat (first | exact Below.refl _ _ | assumption | refine Below.drew ?_ | refine Below.alloc ?_ (by first | (simp; done) | (simp; omega) | omega) _ | refine Below.setCell ?_ (by first | (simp; done) | (simp; omega) | omega) _)); have hB : Blk (w.alloc (.cells #[.int .i64 s.reload, (.slice A s.tasks.length c)] 24)) w.heap.size #[.int .i64 s.reload, (.slice A s.tasks.length c)] 24 := Blk.new _ _ _
  have hr := hv.ext ⟨hL⟩
  generalize w.alloc _ = W at hL hB hr ⊢
  have hc := hB.under
  obtain ⟨b, o, r, rfl, hx⟩ := hr.at hi
  clear hx
  go_wp2_with (fail)
  go_loopw [5, 6] (fun l k wr => ∃ (q : Nat), q ≤ i ∧ k = .int .i64 q ∧ OwnL encLd wr W.heap.size 79 2 l (loadsS s q) ∧ Ext W wr) (fun _ k _ => i - (intOf k).toNat)
  case atStart => exact ⟨0, Nat.zero_le _, rfl, OwnL.nil, Ext.refl W⟩
  case round =>
    obtain ⟨q, hq, rfl, hO, hX⟩ := hrel
    have hcr := fun w' (h : Ext wr w') => hc w' (hX.trans h)
    go_upto_region 3 with (fail)
    refine wp_region_all' (S := Ext wr) (Ext.refl wr) (fun K hK => ?_); (repeat (first | (apply hO_and; (· rfl); (· rfl); (· rfl); (· rfl); simp only [Act.put, List.setIfInBounds_toArray, List.set_cons_zero, List.set_cons_succ]) | (apply hO_or; (· rfl); (· rfl); (· rfl); (· rfl); simp only [Act.put, List.setIfInBounds_toArray, List.set_cons_zero, List.set_cons_succ]) | (apply hO_off; (· rfl); (· rfl); simp only [Act.put, List.setIfInBounds_toArray, List.set_cons_zero, List.set_cons_succ]) | (apply hO_val; (· intro w hS; go_simp; with_reducible rfl); (· rfl); simp only [Act.put, List.setIfInBounds_toArray, List.set_cons_zero, List.set_cons_succ]) | (apply hO_call; (· rfl); (· intro w hS; go_simp; exact ⟨rfl, rfl⟩); (· intro w hS; fail); simp only [Act.put, List.setIfInBounds_toArray, List.set_cons_zero, List.set_cons_succ]) | (apply hO_if; (· rfl); (· rfl); (· intro hif w hS; go_simp; with_reducible rfl); simp only [Act.put, List.setIfInBounds_toArray, List.set_cons_zero, List.set_cons_succ]) | (apply hO_ifcall; (· rfl); (· rfl); (· intro hif w hS; go_simp; exact ⟨rfl, rfl⟩); (· intro hif w hS; fail); simp only [Act.put, List.setIfInBounds_toArray, List.set_cons_zero, List.set_cons_succ]))); refine hO_nil ?_; refine forget_range 7 9 (Nat.le_of_ble_eq_true rfl) (fun junk => ?_); simp only [List.take_succ_cons, List.take_zero, List.drop_succ_cons, List.drop_zero, List.cons_append, List.nil_append, fillF, Nat.reduceAdd]; refine hK _ ?_; clear hK K
    intro wq hXq
    have hO := hO.below hXq.below
    have hX := hX.trans hXq
    clear hXq hcr
    by_cases hlt : q < i
    · have hd : (decide ((q : Int) < (i : Int)) && decide ((q : Int) < (s.tasks.length : Int))) = true := by simp; omega
      have hd2 : (decide (q < i) && true) = true := by simp; omega
      rw [hd2]
      clear hd hd2
      obtain ⟨b2, o2, r2, e, hx⟩ := hr.at (k := q) (by omega)
      obtain ⟨rfl, rfl⟩ : b2 = b ∧ o2 = o := by cases e; exact ⟨rfl, rfl⟩
      have hql : q < s.tasks.length := by omega
      have hft := hs.at q hql
      have hla := loadAt_in s hql
      have hma := (madeN_eq s q hql hs.reload).2
      have hwk := hft.work
      have htm := hft.time
      obtain ⟨n, hn⟩ := Int.eq_ofNat_of_zero_le (show 0 ≤ workL s.tasks[q].regs by omega)
      have HC := Lib.hid fun W' (hW' : Ext W W') => made8_any s (.slice (some ⟨b2, o2, none⟩) s.tasks.length c) q W' (hr.ext hW') hs.plain hql
      have HW := Lib.hid fun W' (hW' : Ext W W') => work8_any s (.slice (some ⟨b2, o2, none⟩) s.tasks.length c) q W' (hr.ext hW') hql
      rw [hn] at hla hwk HW
      generalize madeN s q hql = m at HC hla hma
      obtain ⟨sm, hsm⟩ : ∃ sm : Int, (n : Int) + (m : Int) = sm := ⟨_, rfl⟩
      rw [hsm] at hla
      have hadd : IntKind.i64.wrap ((n : Int) + (m : Int)) = sm := by rw [hsm, IntKind.wrap_i64]; omega
      clear hsm
      generalize s.tasks[q] = t at hx hla hwk htm
      have hk6 : (loadsS s q).length = q := loadsS_len s q
      have hsucc := loadsS_succ s q
      rw [hla] at hsucc
      have HSU := Lib.hid hsucc
      clear hla hft hn hsucc
      generalize loadsS s q = ls at hO hk6 HSU
      have HK := Lib.hid hk6
      clear hk6
      obtain ⟨x0, x1, x2, x3, x4, x5, x6, x7, x8⟩ := hx.under
      obtain ⟨Av, cv, rfl, _, _⟩ := hO.form
      go_upto_region 5 with (fail)
      have hsu : ∀ (wa wb : World), (Ext W wa ∧ Ext wq wa) → Ext wa wb → (Ext W wb ∧ Ext wq wb) := fun wa wb h1 h2 => ⟨h1.1.trans h2, h1.2.trans h2⟩
      refine' wp_region_mixV (T := [15, 16, 17]) (S := Ext W) (W := wq) (fun g v w => OwnL encLd w W.heap.size 79 2 v (ls ++ [(t.T, sm)]) ∧ Ext W w) (Ext.mono W) (by kernel_rfl) (by kernel_rfl) (Ext.refl wq).drew hX (fun K hK => ?_) ?_
      rotate_left 1
      · (repeat (first | (refine hX_skip ?_ ?_; (· rfl)) | (apply hX_and; (· rfl); (· rfl); (· rfl); (· rfl); (· rfl); simp only [Act.put, List.setIfInBounds_toArray, List.set_cons_zero, List.set_cons_succ]) | (apply hX_or; (· rfl); (· rfl); (· rfl); (· rfl); (· rfl); simp only [Act.put, List.setIfInBounds_toArray, List.set_cons_zero, List.set_cons_succ]) | (apply hX_off; (· rfl); (· rfl); (· rfl); simp only [Act.put, List.setIfInBounds_toArray, List.set_cons_zero, List.set_cons_succ]) | (apply hX_val; (· rfl); (· intro w hS; go_simp; with_reducible rfl); (· rfl); simp only [Act.put, List.setIfInBounds_toArray, List.set_cons_zero, List.set_cons_succ]) | (apply hX_call; (· rfl); (· rfl); (· intro w hS; go_simp; exact ⟨rfl, rfl⟩); (· intro w hS; first | exact callXX (HC.out _ hS) | exact callXX (HW.out _ hS)); simp only [Act.put, List.setIfInBounds_toArray, List.set_cons_zero, List.set_cons_succ]) | (apply hX_if; (· rfl); (· rfl); (· rfl); (· intro hif w hS; go_simp; with_reducible rfl); simp only [Act.put, List.setIfInBounds_toArray, List.set_cons_zero, List.set_cons_succ]) | (apply hX_ifcall; (· rfl); (· rfl); (· rfl); (· intro hif w hS; go_simp; exact ⟨rfl, rfl⟩); (· intro hif w hS; first | exact callXX (HC.out _ hS) | exact callXX (HW.out _ hS)); simp only [Act.put, List.setIfInBounds_toArray, List.set_cons_zero, List.set_cons_succ]))); refine hX_nil ?_
        refine hK _ ?_
        clear hK K
        refine wpX_want (i := 15) (by kernel_rfl) rfl (by simp [Region.wanted, yielded]) ?_
        intro w4 hx4 K hK
        go_simp
        have hX4 := (hX.trans hx4).alloc (.cells #[.int .i64 t.T, .int .i64 sm] 79)
        have hO4 := (hO.below hx4.below).alloc (.cells #[.int .i64 t.T, .int .i64 sm] 79)
        have hB4 : Blk (w4.alloc (.cells #[.int .i64 t.T, .int .i64 sm] 79)) w4.heap.size #[.int .i64 t.T, .int .i64 sm] 79 := Blk.new _ _ _
        refine hK _ _ hX4 ?_
        clear hK K hx4
        generalize w4.heap.size = g4 at hB4 ⊢
        generalize w4.alloc _ = W4 at hB4 hO4 hX4 ⊢
        refine wpX_want (i := 16) (by kernel_rfl) rfl (by simp [Region.wanted, yielded]) ?_; intro w5 hx5 K hK; refine wp_push _ _ 70 rfl W.heap.size 79 Tryz.underlying70 infoLoad rfl (by decide) (by decide) encLd ls _ rfl (hO4.below hx5.below) (t.T, sm) g4 #[.int .i64 t.T, .int .i64 sm] 79 rfl (hB4.ext hx5) rfl rfl (encLd_one _) (by have := HK.out; omega) (hX4.trans hx5).size ?_; intro v6 w6 hown hg hloc _; have hX6 : Ext W w6 := (hX4.trans hx5).grown hg (fun j hj => (hO4.lt j hj).1); refine hK _ _ hX6 ?_; clear hK K hx5 hg hloc hX4 hO4 hB4
        refine wpX_want (i := 17) (by kernel_rfl) rfl (by simp [Region.wanted, yielded]) ?_; intro w' hx K hK; go_simp
        have hX7 := hX6.trans hx
        have hO7 := hown.below hx.below
        refine hK _ _ hX7 ?_
        clear hK K hx
        refine wpX_done (by kernel_rfl) (fun w9 hx9 => ⟨g4, v6, rfl, hO7.below hx9.below, hX7.trans hx9⟩) _
      · rintro g v w2 ⟨hO2, hX2⟩
        go_wp2_with (fail)
        exact ⟨⟨q + 1, hlt, rfl, by rw [HSU.out]; exact hO2, hX2⟩, by simp [intOf]; omega⟩
    · have hqi : q = i := Nat.le_antisymm hq (Nat.not_lt.1 hlt)
      subst hqi
      have hd : (decide ((q : Int) < (q : Int)) && decide ((q : Int) < (s.tasks.length : Int))) = false := by simp
      have hd2 : (decide (q < q) && true) = false := by simp
      rw [hd2]
      go_wp2_with (fail)
      go_ret
      exact ⟨_, rfl, hO.lower hL.size, hL.trans (hX.below.mono hL.size)⟩
theorem refOf_any (s : TSet) (v : Value) (i : Nat) (bl : Int) (w : World) (hv : Tasks w v s.tasks) (hs : Fine s) (hi : i < s.tasks.length) :
    Calls Tryz.prog 47 #[setV s v, .int .i64 i, .int .i64 bl] w fun e w' => e = .returned (optN (least bl (loadsS s i ++ [(s.tasks[i].T, workL s.tasks[i].regs)]))) ∧ Below w.heap.size w w' := by
  have l1 := hv.len
  have hlen := hs.len
  have hv0 := hv
  obtain ⟨A, c, rfl, hle, hcm, _⟩ := hv0
  unfold maxLen at hcm
  go_enter Tryz.func47, Tryz.ntmps47
  unfold setV
  go_upto_region 1 with (fail)
  have hL : Below w.heap.size w (w.alloc (.cells #[.int .i64 s.reload, (.slice A s.tasks.length c)] 24)) := (by repeat (first | exact Below.refl _ _ | assumption | refine Below.drew ?_ | refine Below.alloc ?_ (by first | (simp; done) | (simp; omega) | omega) _ | refine Below.setCell ?_ (by first | (simp; done) | (simp; omega) | omega) _)); have hB : Blk (w.alloc (.cells #[.int .i64 s.reload, (.slice A s.tasks.length c)] 24)) w.heap.size #[.int .i64 s.reload, (.slice A s.tasks.length c)] 24 := Blk.new _ _ _
  have hr := hv.ext ⟨hL⟩
  generalize w.alloc _ = W at hL hB hr ⊢
  have hc := hB.under
  refine wp_region_all' (S := Ext W) (Ext.refl W) (fun K hK => ?_); (repeat (first | (apply hO_and; (· rfl); (· rfl); (· rfl); (· rfl); simp only [Act.put, List.setIfInBounds_toArray, List.set_cons_zero, List.set_cons_succ]) | (apply hO_or; (· rfl); (· rfl); (· rfl); (· rfl); simp only [Act.put, List.setIfInBounds_toArray, List.set_cons_zero, List.set_cons_succ]) | (apply hO_off; (· rfl); (· rfl); simp only [Act.put, List.setIfInBounds_toArray, List.set_cons_zero, List.set_cons_succ]) | (apply hO_val; (· intro w hS; go_simp; with_reducible rfl); (· rfl); simp only [Act.put, List.setIfInBounds_toArray, List.set_cons_zero, List.set_cons_succ]) | (apply hO_call; (· rfl); (· intro w hS; go_simp; exact ⟨rfl, rfl⟩); (· intro w hS; fail); simp only [Act.put, List.setIfInBounds_toArray, List.set_cons_zero, List.set_cons_succ]) | (apply hO_if; (· rfl); (· rfl); (· intro hif w hS; go_simp; with_reducible rfl); simp only [Act.put, List.setIfInBounds_toArray, List.set_cons_zero, List.set_cons_succ]) | (apply hO_ifcall; (· rfl); (· rfl); (· intro hif w hS; go_simp; exact ⟨rfl, rfl⟩); (· intro hif w hS; fail); simp only [Act.put, List.setIfInBounds_toArray, List.set_cons_zero, List.set_cons_succ]))); refine hO_nil ?_; refine forget_range 8 8 (Nat.le_of_ble_eq_true rfl) (fun junk => ?_); simp only [List.take_succ_cons, List.take_zero, List.drop_succ_cons, List.drop_zero, List.cons_append, List.nil_append, fillF, Nat.reduceAdd]; refine hK _ ?_; clear hK K
  intro w1 hX1
  have hd : (decide ((i : Int) < 0) || decide (s.tasks.length ≤ i)) = false := by simp; omega
  rw [hd]
  obtain ⟨b, o, r, rfl, hx⟩ := hr.at hi
  have HA := Lib.hid fun W' (hW' : Ext W W') => refLoads_any s (.slice (some ⟨b, o, none⟩) s.tasks.length c) i W' (hr.ext hW') hs hi
  have HW := Lib.hid fun W' (h2 : Ext W W') => work8_any s (.slice (some ⟨b, o, none⟩) s.tasks.length c) i W' (hr.ext h2) hi
  have hrow := hx.row
  have hlm := loadsS_len s i
  obtain ⟨n, ok, hle⟩ := optN_tup (least bl (loadsS s i ++ [(s.tasks[i].T, workL s.tasks[i].regs)]))
  have HF := Lib.hid hle
  generalize s.tasks[i] = t at hx hrow HW hle
  generalize loadsS s i = ls at HA hlm hle
  obtain ⟨A2, c2, rfl⟩ := hrow
  obtain ⟨x0, x1, x2, x3, x4, x5, x6, x7, x8⟩ := hx.under
  generalize workL t.regs = wk at HW hle
  have HLE := Lib.hid hle
  clear hle hx
  go_upto_region 3 with (fail)
  refine wp_region_mix (T := [3, 14, 15, 16, 17, 18, 19, 20]) (S := Ext W) (W := w1) (Ext.mono W) (by kernel_rfl) (by kernel_rfl) (Ext.refl w1).drew hX1 (fun _ _ h => h) (fun K hK => ?_)
  (repeat (first | (refine hX_skip ?_ ?_; (· rfl)) | (apply hX_and; (· rfl); (· rfl); (· rfl); (· rfl); (· rfl); simp only [Act.put, List.setIfInBounds_toArray, List.set_cons_zero, List.set_cons_succ]) | (apply hX_or; (· rfl); (· rfl); (· rfl); (· rfl); (· rfl); simp only [Act.put, List.setIfInBounds_toArray, List.set_cons_zero, List.set_cons_succ]) | (apply hX_off; (· rfl); (· rfl); (· rfl); simp only [Act.put, List.setIfInBounds_toArray, List.set_cons_zero, List.set_cons_succ]) | (apply hX_val; (· rfl); (· intro w hS; go_simp; with_reducible rfl); (· rfl); simp only [Act.put, List.setIfInBounds_toArray, List.set_cons_zero, List.set_cons_succ]) | (apply hX_call; (· rfl); (· rfl); (· intro w hS; go_simp; exact ⟨rfl, rfl⟩); (· intro w hS; exact callXX (HW.out _ hS)); simp only [Act.put, List.setIfInBounds_toArray, List.set_cons_zero, List.set_cons_succ]) | (apply hX_if; (· rfl); (· rfl); (· rfl); (· intro hif w hS; go_simp; with_reducible rfl); simp only [Act.put, List.setIfInBounds_toArray, List.set_cons_zero, List.set_cons_succ]) | (apply hX_ifcall; (· rfl); (· rfl); (· rfl); (· intro hif w hS; go_simp; exact ⟨rfl, rfl⟩); (· intro hif w hS; exact callXX (HW.out _ hS)); simp only [Act.put, List.setIfInBounds_toArray, List.set_cons_zero, List.set_cons_succ]))); refine hX_nil ?_
  refine hK _ ?_
  clear hK K
  refine wpX_two (i := 3) (j := 14) (by kernel_rfl) rfl rfl rfl rfl ?_ ?_
  · intro w2 hx2 K hK
    go_simp
    refine (HA.out _ (hX1.trans hx2)).mono ?_
    rintro e w3 ⟨v3, rfl, hO3, hb3⟩
    have hX3 := (hX1.trans hx2).call hb3
    refine hK _ _ hX3 ?_
    clear hK K
    have hO3 := hO3.lower (hX1.trans hx2).size
    refine wpX_want (i := 14) (by kernel_rfl) rfl (by simp [Region.wanted, yielded]) ?_
    intro w4 hx4 K hK
    go_simp
    have hX4 := (hX3.trans hx4).alloc (.cells #[.int .i64 t.T, .int .i64 wk] 79)
    have hO4 := (hO3.below hx4.below).alloc (.cells #[.int .i64 t.T, .int .i64 wk] 79)
    have hB4 : Blk (w4.alloc (.cells #[.int .i64 t.T, .int .i64 wk] 79)) w4.heap.size #[.int .i64 t.T, .int .i64 wk] 79 := Blk.new _ _ _
    refine hK _ _ hX4 ?_
    clear hK K hx4 hx2 hO3 hX3 hb3
    generalize w4.heap.size = g4 at hB4 ⊢
    generalize w4.alloc _ = W4 at hB4 hO4 hX4 ⊢
    refine wpX_want (i := 15) (by kernel_rfl) rfl (by simp [Region.wanted, yielded]) ?_; intro w5 hx5 K hK; refine wp_push _ _ 70 rfl W.heap.size 79 Tryz.underlying70 infoLoad rfl (by decide) (by decide) encLd ls _ rfl (hO4.below hx5.below) (t.T, wk) g4 #[.int .i64 t.T, .int .i64 wk] 79 rfl (hB4.ext hx5) rfl rfl (encLd_one _) (by omega) (hX4.trans hx5).size ?_; intro v6 w6 hown hg hloc _; have hX6 : Ext W w6 := (hX4.trans hx5).grown hg (fun j hj => (hO4.lt j hj).1); refine hK _ _ hX6 ?_; clear hK K hg hloc hx5 hX4 hO4 hB4
    refine wpX_want (i := 16) (by kernel_rfl) rfl (by simp [Region.wanted, yielded]) ?_; intro w7 hx7 K hK; go_simp; refine (least10_any bl (ls ++ [(t.T, wk)]) v6 _ (hown.below hx7.below).loads).mono ?_; rintro e w8 ⟨rfl, hb8⟩; have hX8 := (hX6.trans hx7).call hb8; refine hK _ _ hX8 ?_; clear hK K hx7 hX6 hb8 hown; rw [HLE.out]
    refine wpX_pure2 (i := 17) (j := 18) (by kernel_rfl) rfl rfl rfl rfl (.int .i64 n) (.bool ok) (by intro w; go_simp) (by intro w; go_simp) (by intro w; go_simp) (by intro w; go_simp) rfl (by kernel_rfl) (by kernel_rfl) (by kernel_rfl) (fun w' hx => Ext.trans hX8 hx) ?_; intro w' hx; have hN := Ext.trans hX8 hx; clear hx hX8; simp only [Act.put, List.setIfInBounds_toArray, List.set_cons_zero, List.set_cons_succ]
    refine wpX_want (i := 19) (by kernel_rfl) rfl (by simp [Region.wanted, yielded]) ?_; intro w' hx K hK; go_simp; have hN : Ext W w' := Ext.trans (by assumption) hx; refine hK _ _ hN ?_; clear hK K hx
    refine wpX_want (i := 20) (by kernel_rfl) rfl (by simp [Region.wanted, yielded]) ?_; intro w' hx K hK; go_simp; have hN : Ext W w' := Ext.trans (by assumption) hx; refine hK _ _ hN ?_; clear hK K hx
    refine wpX_done (by kernel_rfl) (fun w9 hx9 => ?_) _
    go_wp2_with (fail)
    exact bodyPost_ret (v := .tuple #[.int .i64 n, .bool ok]) (by simp [results, Tryz.results47, go_sem, *]) rfl ⟨by rw [HF.out], hL.trans ((Ext.below (Ext.trans (by assumption) hx9)).mono hL.size)⟩
  · intro w2 hx2 K hK
    go_simp
    have hX3 := (hX1.trans hx2).alloc (.cells #[.int .i64 t.T, .int .i64 wk] 79)
    have hB3 : Blk (w2.alloc (.cells #[.int .i64 t.T, .int .i64 wk] 79)) w2.heap.size #[.int .i64 t.T, .int .i64 wk] 79 := Blk.new _ _ _
    refine hK _ _ hX3 ?_
    clear hK K hx2
    generalize w2.heap.size = g4 at hB3 ⊢
    generalize w2.alloc _ = W3 at hB3 hX3 ⊢
    refine wpX_want (i := 3) (by kernel_rfl) rfl (by simp [Region.wanted, yielded]) ?_
    intro w4 hx4 K hK
    go_simp
    refine (HA.out _ (hX3.trans hx4)).mono ?_
    rintro e w5 ⟨v3, rfl, hO4, hb4⟩
    have hX4 := (hX3.trans hx4).call hb4
    have hO4 := hO4.lower (hX3.trans hx4).size
    have hB4 := (hB3.ext hx4).ext ⟨hb4⟩
    refine hK _ _ hX4 ?_
    clear hK K hx4 hX3 hB3 hb4
    refine wpX_want (i := 15) (by kernel_rfl) rfl (by simp [Region.wanted, yielded]) ?_; intro w5 hx5 K hK; refine wp_push _ _ 70 rfl W.heap.size 79 Tryz.underlying70 infoLoad rfl (by decide) (by decide) encLd ls _ rfl (hO4.below hx5.below) (t.T, wk) g4 #[.int .i64 t.T, .int .i64 wk] 79 rfl (hB4.ext hx5) rfl rfl (encLd_one _) (by omega) (hX4.trans hx5).size ?_; intro v6 w6 hown hg hloc _; have hX6 : Ext W w6 := (hX4.trans hx5).grown hg (fun j hj => (hO4.lt j hj).1); refine hK _ _ hX6 ?_; clear hK K hg hloc hx5 hX4 hO4 hB4
    refine wpX_want (i := 16) (by kernel_rfl) rfl (by simp [Region.wanted, yielded]) ?_; intro w7 hx7 K hK; go_simp; refine (least10_any bl (ls ++ [(t.T, wk)]) v6 _ (hown.below hx7.below).loads).mono ?_; rintro e w8 ⟨rfl, hb8⟩; have hX8 := (hX6.trans hx7).call hb8; refine hK _ _ hX8 ?_; clear hK K hx7 hX6 hb8 hown; rw [HLE.out]
    refine wpX_pure2 (i := 17) (j := 18) (by kernel_rfl) rfl rfl rfl rfl (.int .i64 n) (.bool ok) (by intro w; go_simp) (by intro w; go_simp) (by intro w; go_simp) (by intro w; go_simp) rfl (by kernel_rfl) (by kernel_rfl) (by kernel_rfl) (fun w' hx => Ext.trans hX8 hx) ?_; intro w' hx; have hN := Ext.trans hX8 hx; clear hx hX8; simp only [Act.put, List.setIfInBounds_toArray, List.set_cons_zero, List.set_cons_succ]
    refine wpX_want (i := 19) (by kernel_rfl) rfl (by simp [Region.wanted, yielded]) ?_; intro w' hx K hK; go_simp; have hN : Ext W w' := Ext.trans (by assumption) hx; refine hK _ _ hN ?_; clear hK K hx
    refine wpX_want (i := 20) (by kernel_rfl) rfl (by simp [Region.wanted, yielded]) ?_; intro w' hx K hK; go_simp; have hN : Ext W w' := Ext.trans (by assumption) hx; refine hK _ _ hN ?_; clear hK K hx
    refine wpX_done (by kernel_rfl) (fun w9 hx9 => ?_) _
    go_wp2_with (fail)
    exact bodyPost_ret (v := .tuple #[.int .i64 n, .bool ok]) (by simp [results, Tryz.results47, go_sem, *]) rfl ⟨by rw [HF.out], hL.trans ((Ext.below (Ext.trans (by assumption) hx9)).mono hL.size)⟩
end Go.Proofs.YtknfdjnbndfboabGreatDoor
