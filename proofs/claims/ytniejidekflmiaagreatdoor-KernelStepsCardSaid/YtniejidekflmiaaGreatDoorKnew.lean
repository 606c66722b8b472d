/- The kernel: made. -/
import Derived.Test.YtniejidekflmiaaGreatDoorProg
import Derived.Test.YtniejidekflmiaaGreatDoorBase
import Derived.Test.YtniejidekflmiaaGreatDoorHeldX
import Derived.Test.YtniejidekflmiaaGreatDoorHeldN
import Derived.Test.YtniejidekflmiaaGreatDoorApp
import Derived.Test.YtniejidekflmiaaGreatDoorExt0
import Derived.Test.YtniejidekflmiaaGreatDoorChg
import Derived.Test.YtniejidekflmiaaGreatDoorRowB
import Derived.Test.YtniejidekflmiaaGreatDoorKM
import Derived.Test.YtniejidekflmiaaGreatDoorKP1
import Derived.Test.YtniejidekflmiaaGreatDoorOpenI
import Derived.Test.YtniejidekflmiaaGreatDoorTskP
import Derived.Test.YtniejidekflmiaaGreatDoorKat
import Derived.Test.YtniejidekflmiaaGreatDoorKlate
import Derived.Test.YtniejidekflmiaaGreatDoorKtab
import Derived.Test.YtniejidekflmiaaGreatDoorKn0
import Derived.Test.YtniejidekflmiaaGreatDoorTskA
import Derived.Deep.Cut
import Derived.Lib.Hide
import Derived.OwnWalk
import Derived.Maps.AppendAt
import Derived.BigQuiet
import Derived.Deep.DeepMust
namespace Go.Proofs.YtniejidekflmiaaGreatDoor
open Go.RowKit
attribute [local go_sem] setCell_twice Ext.alloc Ext.drew
set_option linter.unusedSimpArgs false
set_option linter.unusedVariables false
set_option maxRecDepth 100000
set_option maxHeartbeats 6400000
attribute [local irreducible] Calls
theorem infoOw : (Tryz.prog.info? 133).map (fun i => (i.zero, i.size, i.bytes)) = some (some (.agg #[.pointer none, .int .u64 0, .int .i64 0]), 3, 24) := by kernel_rfl
theorem made_ow0 : madeCells (Value.agg #[.pointer none, .int .u64 0, .int .i64 0]).cells (0 * 3) = ((List.replicate 0 Ow.zero).flatMap encOw).toArray := by kernel_rfl
theorem made_ow1 : madeCells (Value.agg #[.pointer none, .int .u64 0, .int .i64 0]).cells (1 * 3) = ((List.replicate 1 Ow.zero).flatMap encOw).toArray := by kernel_rfl
theorem made_ow2 : madeCells (Value.agg #[.pointer none, .int .u64 0, .int .i64 0]).cells (2 * 3) = ((List.replicate 2 Ow.zero).flatMap encOw).toArray := by kernel_rfl
theorem made_ow3 : madeCells (Value.agg #[.pointer none, .int .u64 0, .int .i64 0]).cells (3 * 3) = ((List.replicate 3 Ow.zero).flatMap encOw).toArray := by kernel_rfl
theorem made_ow4 : madeCells (Value.agg #[.pointer none, .int .u64 0, .int .i64 0]).cells (4 * 3) = ((List.replicate 4 Ow.zero).flatMap encOw).toArray := by kernel_rfl
theorem made_ow5 : madeCells (Value.agg #[.pointer none, .int .u64 0, .int .i64 0]).cells (5 * 3) = ((List.replicate 5 Ow.zero).flatMap encOw).toArray := by kernel_rfl
theorem made_ow6 : madeCells (Value.agg #[.pointer none, .int .u64 0, .int .i64 0]).cells (6 * 3) = ((List.replicate 6 Ow.zero).flatMap encOw).toArray := by kernel_rfl
theorem made_ow7 : madeCells (Value.agg #[.pointer none, .int .u64 0, .int .i64 0]).cells (7 * 3) = ((List.replicate 7 Ow.zero).flatMap encOw).toArray := by kernel_rfl
theorem made_ow8 : madeCells (Value.agg #[.pointer none, .int .u64 0, .int .i64 0]).cells (8 * 3) = ((List.replicate 8 Ow.zero).flatMap encOw).toArray := by kernel_rfl
theorem made_ow {n : Nat} (h : n ≤ 8) : madeCells (Value.agg #[.pointer none, .int .u64 0, .int .i64 0]).cells (n * 3) = ((List.replicate n Ow.zero).flatMap encOw).toArray := by
  have h9 : n = 0 ∨ n = 1 ∨ n = 2 ∨ n = 3 ∨ n = 4 ∨ n = 5 ∨ n = 6 ∨ n = 7 ∨ n = 8 := by omega
  clear h
  rcases h9 with rfl | rfl | rfl | rfl | rfl | rfl | rfl | rfl | rfl
  · exact made_ow0
  · exact made_ow1
  · exact made_ow2
  · exact made_ow3
  · exact made_ow4
  · exact made_ow5
  · exact made_ow6
  · exact made_ow7
  · exact made_ow8
theorem make_ow {n : Nat} (h : n ≤ 8) (w : World) : (Instr.makeSlice 87 (.int .i64 n) (.int .i64 n)).run Tryz.prog w = .ok (.slice (some ⟨w.heap.size, 0, none⟩) n n) (w.alloc (.cells ((List.replicate n Ow.zero).flatMap encOw).toArray 133)) := by
  obtain ⟨i, hi, hz0, hz1, hz2⟩ := info_parts infoOw
  have := run_make w 87 133 i (.agg #[.pointer none, .int .u64 0, .int .i64 0]) Tryz.underlying87 hi hz0 .i64 .i64 n n (by omega) (Int.le_refl _) (by rw [hz2]; omega) (by omega)
  rw [hz1, Int.toNat_natCast, made_ow h] at this
  exact this
/-- the three that a kernel is made of, in whatever order they were made -/
structure Made3 (n : Nat) (w w' : World) (gc gt gs go : Nat) : Prop where
  ext : Ext w w'
  cache : CacheAt w' gc (List.replicate 64 0)
  tab : TabAt 117 w' gt gs (List.replicate n St.zero)
  row : RowBk encOw w' go 133 (List.replicate n Ow.zero)
  low : w.heap.size ≤ gc ∧ w.heap.size ≤ gt ∧ w.heap.size ≤ gs ∧ w.heap.size ≤ go
theorem Made3.more {n : Nat} {w w' w2 : World} {gc gt gs go : Nat} (h : Made3 n w w' gc gt gs go) (hx : Ext w' w2) : Made3 n w w2 gc gt gs go := ⟨h.ext.trans hx, h.cache.ext hx, h.tab.ext hx, h.row.ext hx, h.low⟩
/-- the kernel's block and a task's -/
def KTBox (gk g5 : Nat) (cs ct : Array Value) (w : World) : Prop := Blk w gk cs 90 ∧ Blk w g5 ct 38
theorem KTBox.ext {gk g5 : Nat} {cs ct : Array Value} {w w' : World} (h : KTBox gk g5 cs ct w) (hx : Ext w w') : KTBox gk g5 cs ct w' := ⟨h.1.ext hx, h.2.ext hx⟩
/-- the kernel while its tasks are copied: m tasks, m' periods -/
structure NewS (s : TSet) (W0 w : World) (gc gt gs go gk m m' : Nat) (vt vp : Value) (ps : List (Tsk × Value)) : Prop where
  ext : Ext W0 w
  cache : CacheAt w gc (List.replicate 64 0)
  tab : TabAt 117 w gt gs (List.replicate s.tasks.length St.zero)
  row : RowBk encOw w go 133 (List.replicate s.tasks.length Ow.zero)
  box : Blk w gk #[.int .i64 s.reload, vt, .int .i64 0, .int .i64 (-1), .pointer none, .pointer (some ⟨gc, 0, none⟩), .pointer (some ⟨gt, 0, none⟩), .slice (some ⟨go, 0, none⟩) s.tasks.length s.tasks.length, .slice none 0 0] 90
  put : PutOwn w W0.heap.size vt ps
  eq : ps.map (·.1) = s.tasks.take m
  per : RowI w W0.heap.size vp ((s.tasks.take m').map (·.T))
  apart : ∀ p ∈ ps, ∀ q, vp.ownBlock = some q → p.2.ownBlock ≠ some q
  low : W0.heap.size ≤ gk
section
variable {s : TSet} {W0 w w' w2 : World} {gc gt gs go gk m m' : Nat} {vt vp : Value} {ps : List (Tsk × Value)}
theorem NewS.more (h : NewS s W0 w gc gt gs go gk m m' vt vp ps) (hx : Ext w w') : NewS s W0 w' gc gt gs go gk m m' vt vp ps :=
  ⟨h.ext.trans hx, h.cache.ext hx, h.tab.ext hx, h.row.ext hx, h.box.ext hx, h.put.ext hx, h.eq, OwnL.below h.per hx.below, h.apart, h.low⟩
/-- one task more -/
theorem NewS.task (h : NewS s W0 w gc gt gs go gk m m' vt vp ps) (hm : m < s.tasks.length) {r v2 : Value} (hr : RowI w W0.heap.size r (s.tasks[m]).regs) (hd : ∀ p ∈ ps, ∀ k, p.2.ownBlock = some k → r.ownBlock ≠ some k) (hd2 : ∀ q, vp.ownBlock = some q → r.ownBlock ≠ some q)
    (hg : w.grownBy w2 vt.ownBlock) (ho : OwnL encT w2 W0.heap.size 38 9 v2 (ps ++ [(s.tasks[m], r)])) : NewS s W0 (w2.setCell ⟨gk, 1, none⟩ v2) gc gt gs go gk (m + 1) m' v2 vp (ps ++ [(s.tasks[m], r)]) := by
  have hc : Chg (fun q => vt.ownBlock = some q) w w2 := Chg.of_grown hg (fun k e => e)
  have hF : FT w (fun q => vt.ownBlock = some q) [38] := fun q hq => by
    obtain ⟨cs, hB⟩ := h.put.1.block hq
    exact ⟨_, by simp, _, hB⟩
  have hb2 := h.box.chg hc (hF.no h.box rfl)
  have hcc : Chg (fun q => q = gk) w2 (w2.setCell ⟨gk, 1, none⟩ v2) := (Chg.refl (fun q => q = gk) w2).set (g := gk) (i := 1) (.inl rfl) v2
  have hF2 := FT.one hb2
  have hp2 : PutOwn w2 W0.heap.size v2 (ps ++ [(s.tasks[m], r)]) := h.put.push hr hg ho hd
  have hcache := h.cache.chg hc (hF.no h.cache.box rfl)
  have htab := h.tab.chg hc (hF.no h.tab.box rfl) (hF.no h.tab.row rfl)
  have hrow := h.row.chg hc (hF.no h.row rfl)
  have hper := OwnL.chg h.per hc (hF.own h.per rfl)
  have hb3 := hb2.set 1 v2
  simp only [List.setIfInBounds_toArray, List.set_cons_zero, List.set_cons_succ] at hb3
  refine ⟨?_, hcache.chg hcc (hF2.no hcache.box rfl), htab.chg hcc (hF2.no htab.box rfl) (hF2.no htab.row rfl), hrow.chg hcc (hF2.no hrow rfl), hb3, ⟨hp2.1.chg hcc (hF2.own hp2.1 rfl), fun p hp => OwnL.chg (hp2.2.1 p hp) hcc (hF2.own (hp2.2.1 p hp) rfl), hp2.2.2⟩, ?_, OwnL.chg hper hcc (hF2.own hper rfl), ?_, h.low⟩
  · exact ((h.ext.chg hc (fun k hk => (OwnL.lt h.put.1 k hk).1)).set h.low v2)
  · rw [List.map_append, h.eq, List.take_succ_eq_append_getElem hm]
    rfl
  · intro p hp q hq
    rcases List.mem_append.1 hp with hp | hp
    · exact h.apart p hp q hq
    · obtain rfl := List.mem_singleton.1 hp
      exact hd2 q hq
/-- one period more -/
theorem NewS.period (h : NewS s W0 w gc gt gs go gk m m' vt vp ps) (hm : m' < s.tasks.length) {v2 : Value} (hg : w.grownBy w2 vp.ownBlock) (ho : RowI w2 W0.heap.size v2 ((s.tasks.take m').map (·.T) ++ [(s.tasks[m']).T])) (hloc : v2.ownBlock = vp.ownBlock ∨ v2.ownBlock = some w.heap.size) :
    NewS s W0 w2 gc gt gs go gk m (m' + 1) vt v2 ps := by
  have hc : Chg (fun q => vp.ownBlock = some q) w w2 := Chg.of_grown hg (fun k e => e)
  have hF : FT w (fun q => vp.ownBlock = some q) [2] := fun q hq => by
    obtain ⟨cs, hB⟩ := OwnL.block h.per hq
    exact ⟨_, by simp, _, hB⟩
  refine ⟨h.ext.chg hc (fun k hk => (OwnL.lt h.per k hk).1), h.cache.chg hc (hF.no h.cache.box rfl), h.tab.chg hc (hF.no h.tab.box rfl) (hF.no h.tab.row rfl), h.row.chg hc (hF.no h.row rfl), h.box.chg hc (hF.no h.box rfl),
    ⟨h.put.1.chg hc (hF.own h.put.1 rfl), fun p hp => OwnL.chg (h.put.2.1 p hp) hc (fun k hk e => h.apart p hp k e hk), h.put.2.2⟩, h.eq, ?_, ?_, h.low⟩
  · rw [List.take_succ_eq_append_getElem hm, List.map_append]
    exact ho
  · intro p hp q hq e
    rcases hloc with h1 | h1
    · exact h.apart p hp q (h1.symm.trans hq) e
    · rw [h1] at hq
      have h2 := Option.some.inj hq
      have h3 := (OwnL.lt (h.put.2.1 p hp) q e).2
      omega
end
theorem grown_ext {w w1 w2 : World} {row : Option Nat} (h : w.grownBy w1 row) (hx : Ext w1 w2) : w.grownBy w2 row :=
  ⟨hx.below.os.trans h.os, hx.below.tape.trans h.tape, hx.below.output.trans h.output, Nat.le_trans h.size hx.below.size, fun k hk hn => (hx.below.block k (Nat.lt_of_lt_of_le hk h.size)).trans (h.block k hk hn)⟩
theorem polL_init (s : TSet) : polL s (initK s) = (s.tasks.map (·.T)).map fun t => (t, (-1 : Int)) := by
  unfold polL
  refine List.ext_getElem (by simp) fun i h1 h2 => ?_
  have hi : i < s.tasks.length := by simpa using h1
  simp only [List.getElem_map, List.getElem_range]
  have e : (initK s).pol.getD i (-1) = -1 := by simp [initK, List.getD, hi]
  rw [e, tk_at s hi]
theorem owAt_init (n i : Nat) : owAt (List.replicate n Ow.zero) i = Ow.zero := by
  unfold owAt
  simp only [List.getD, List.getElem?_replicate]
  split <;> rfl
theorem stAt_init (s : TSet) (i : Nat) : stAt (initK s).tab i = St.zero := by
  unfold stAt initK
  simp only [List.getD, List.getElem?_replicate]
  split <;> rfl
/-- a kernel that is new -/
theorem new_kat {s : TSet} {W0 w : World} {gc gt gs go gk gp m' : Nat} {Av : Option Addr} {cv : Nat} {vpp vp : Value} {ps : List (Tsk × Value)} (hs : KH s) (h : NewS s W0 w gc gt gs go gk s.tasks.length m' (.slice Av ps.length cv) vp ps) (hP : PolAt w gp vpp ((s.tasks.map (·.T)).map fun t => (t, (-1 : Int))))
    (hl : W0.heap.size ≤ gs ∧ W0.heap.size ≤ gc ∧ W0.heap.size ≤ go) (hgp : W0.heap.size ≤ gp) (hv : ∀ q, vpp.ownBlock = some q → W0.heap.size ≤ q) :
    ∃ ev os, KAt ⟨gk, gp, gc, gt, gs, go, .slice Av ps.length cv, vpp, ps, 0⟩ W0.heap.size (w.setCell ⟨gk, 4, none⟩ (.pointer (some ⟨gp, 0, none⟩))) s (initK s) ev os ∧ (HasP s (initK s) os ∧ ∀ i, (owAt os i).p = none) ∧ ∀ q, foot ⟨gk, gp, gc, gt, gs, go, .slice Av ps.length cv, vpp, ps, 0⟩ os ev q → W0.heap.size ≤ q := by
  have hc := (Chg.refl (fun q => q = gk) w).set (g := gk) (i := 4) (.inl rfl) (.pointer (some ⟨gp, 0, none⟩))
  have hF := FT.one h.box
  have hb := h.box.set 4 (.pointer (some ⟨gp, 0, none⟩))
  simp only [List.setIfInBounds_toArray, List.set_cons_zero, List.set_cons_succ] at hb
  have he := h.eq
  rw [List.take_length] at he
  refine ⟨.slice none 0 0, List.replicate s.tasks.length Ow.zero, ⟨hb, ⟨?_, fun p hp => ?_⟩, he, ?_, h.cache.chg hc (hF.no h.cache.box rfl), h.tab.chg hc (hF.no h.tab.box rfl) (hF.no h.tab.row rfl), h.row.chg hc (hF.no h.row rfl), by simp, fun i hi g hg => ?_, fun i j hi hj hne g hg => ?_, OwnL.nil, fun i hi hst => ?_, Nat.zero_le _⟩, ⟨fun i hi hp => ?_, fun i => by rw [owAt_init]; rfl⟩, fun q hq => ?_⟩
  · exact (OwnL.chg h.put.1 hc (hF.own h.put.1 rfl)).lower (Nat.zero_le _)
  · exact (OwnL.chg (h.put.2.1 p hp) hc (hF.own (h.put.2.1 p hp) rfl)).lower (Nat.zero_le _)
  · rw [polL_init]
    exact hP.chg hc (hF.no hP.box rfl) (hF.own hP.row rfl)
  · rw [owAt_init] at hg; cases hg
  · rw [owAt_init] at hg; cases hg
  · rw [stAt_init] at hst; cases hst
  · rw [stAt_init] at hp; cases hp
  · rcases hq with rfl | rfl | rfl | rfl | hq | hq | ⟨i, hq⟩
    · exact h.low
    · exact hl.1
    · exact hl.2.1
    · exact hl.2.2
    · exact hv q hq
    · cases hq
    · rw [owAt_init] at hq; cases hq
theorem new_ker (s : TSet) (v : Value) (w : World) (hv : Tasks w v s.tasks) (hg : s.good) (hG : GOK w) (hb : allB s = true) (hs : KH s) :
    Calls Tryz.prog 14 #[setV s v] w fun e w' => ∃ b, e = .returned (.tuple #[.pointer (some ⟨b.gk, 0, none⟩), .int .i64 0]) ∧ (∃ ev os, KAt b w.heap.size w' s (initK s) ev os ∧ (HasP s (initK s) os ∧ ∀ i, (owAt os i).p = none) ∧ ∀ q, foot b os ev q → w.heap.size ≤ q) ∧ Ext w w' := by
  obtain ⟨A, c, rfl, hcc, hcm, hxx⟩ := id hv
  clear hxx
  have hn8 := hs.len
  unfold maxLen at hcm
  have hX1 := (Ext.refl w).alloc (.cells #[.int .i64 s.reload, .slice A s.tasks.length c] 24)
  have hB1 := Blk.new w #[.int .i64 s.reload, .slice A s.tasks.length c] 24
  have hAll := all_any s (.slice A s.tasks.length c) _ (hv.ext hX1) hg (hG.below hX1.below)
  rw [hb] at hAll
  unfold setV at hAll ⊢
  have HAll := Lib.hid hAll
  have hmk := fun w => make_ow hn8.2 w
  have hmk8 : Hid (s.tasks.length ≤ 8) := Lib.hid hn8.2
  have HN := Lib.hid hn8
  have HV := Lib.hid hv
  clear hAll hb hv
  go_enter Tryz.func14, Tryz.ntmps14
  go_wp2_with (fail)
  refine HAll.out.mono ?_
  rintro e W ⟨rfl, hb1⟩
  have hXW := hX1.call hb1
  have hBW := hB1.ext ⟨hb1⟩
  have hc : ∀ w', Ext W w' → ∀ j, w'.cell? ⟨w.heap.size, j, none⟩ = #[.int .i64 s.reload, .slice A s.tasks.length c][j]? := fun w' hx => (hBW.ext hx).cell
  clear hX1 hB1 hb1
  generalize hgs : w.heap.size = g0 at *
  generalize hn : s.tasks.length = n at *
  go_upto_region 3 with (fail)
  refine' wp_region_mix4 (T := [0, 4, 8, 9, 10, 11]) (S := Ext W) (W := W) (fun gc gt go gk w' => ∃ gs, Made3 n W w' gc gt gs go ∧ Blk w' gk #[.int .i64 0, .slice none 0 0, .int .i64 0, .int .i64 (-1), .pointer none, .pointer (some ⟨gc, 0, none⟩), .pointer (some ⟨gt, 0, none⟩), .slice (some ⟨go, 0, none⟩) n n, .slice none 0 0] 90 ∧ W.heap.size ≤ gk) (Ext.mono W) (by kernel_rfl) (by kernel_rfl) (Ext.refl W).drew (Ext.refl W) (fun K hK => ?_) ?_
  rotate_left 1
  (repeat (first | (refine hX_skip ?_ ?_; (· rfl)) | (apply hX_and; (· rfl); (· rfl); (· rfl); (· rfl); (· rfl); simp only [Act.put, List.setIfInBounds_toArray, List.set_cons_zero, List.set_cons_succ]) | (apply hX_or; (· rfl); (· rfl); (· rfl); (· rfl); (· rfl); simp only [Act.put, List.setIfInBounds_toArray, List.set_cons_zero, List.set_cons_succ]) | (apply hX_off; (· rfl); (· rfl); (· rfl); simp only [Act.put, List.setIfInBounds_toArray, List.set_cons_zero, List.set_cons_succ]) | (apply hX_val; (· rfl); (· intro w hS; go_simp; with_reducible rfl); (· rfl); simp only [Act.put, List.setIfInBounds_toArray, List.set_cons_zero, List.set_cons_succ]) | (apply hX_call; (· rfl); (· rfl); (· intro w hS; go_simp; exact ⟨rfl, rfl⟩); (· intro w hS; fail); simp only [Act.put, List.setIfInBounds_toArray, List.set_cons_zero, List.set_cons_succ]) | (apply hX_if; (· rfl); (· rfl); (· rfl); (· intro hif w hS; go_simp; with_reducible rfl); simp only [Act.put, List.setIfInBounds_toArray, List.set_cons_zero, List.set_cons_succ]) | (apply hX_ifcall; (· rfl); (· rfl); (· rfl); (· intro hif w hS; go_simp; exact ⟨rfl, rfl⟩); (· intro hif w hS; fail); simp only [Act.put, List.setIfInBounds_toArray, List.set_cons_zero, List.set_cons_succ]))); refine hX_nil ?_
  refine hK _ ?_
  clear hK K
  refine wpX_two (i := 0) (j := 8) (by kernel_rfl) rfl rfl rfl rfl ?_ ?_
  · intro w1 hxc K hK
    go_simp
    refine (news_cache w1).mono ?_
    rintro e w1c ⟨rfl, hC, hXc⟩
    have hEc := hxc.trans hXc
    have hlc : W.heap.size ≤ w1.heap.size := hxc.size
    refine hK _ _ hEc ?_
    clear hK K
    generalize w1.heap.size = gc at *
    refine wpX_two (i := 4) (j := 8) (by kernel_rfl) rfl rfl rfl rfl ?_ ?_
    · intro w2 hxt K hK
      go_simp
      refine (new_tab n w2 HN.out).mono ?_
      rintro e w2c ⟨gt, gs, rfl, hT, l1, l2, hXt⟩
      have hEt := (hEc.trans hxt).trans hXt
      have hlt : W.heap.size ≤ w2.heap.size := (hEc.trans hxt).size
      refine hK _ _ hEt ?_
      clear hK K
      refine wpX_want (i := 8) (by kernel_rfl) rfl (by simp [Region.wanted, yielded]) ?_
      intro w3 hxo K hK
      go_simp
      have hO := Blk.new w3 ((List.replicate n Ow.zero).flatMap encOw).toArray 133
      have hxoE := hxo.alloc (.cells ((List.replicate n Ow.zero).flatMap encOw).toArray 133)
      have hEo := (hEt.trans hxo).alloc (.cells ((List.replicate n Ow.zero).flatMap encOw).toArray 133)
      have hlo : W.heap.size ≤ w3.heap.size := (hEt.trans hxo).size
      refine hK _ _ hEo ?_
      clear hK K
      generalize w3.heap.size = go at *
      generalize w3.alloc _ = w3c at *
      refine wpX_want (i := 9) (by kernel_rfl) rfl (by simp [Region.wanted, yielded]) ?_
      intro w4 hx4 K hK
      go_simp
      refine hK _ _ (hEo.trans hx4) ?_
      clear hK K
      refine wpX_want (i := 10) (by kernel_rfl) rfl (by simp [Region.wanted, yielded]) ?_
      intro w5 hx5 K hK
      go_simp
      have hKB := Blk.new w5 #[.int .i64 0, .slice none 0 0, .int .i64 0, .int .i64 (-1), .pointer none, .pointer (some ⟨gc, 0, none⟩), .pointer (some ⟨gt, 0, none⟩), .slice (some ⟨go, 0, none⟩) n n, .slice none 0 0] 90
      have hX5 := (hEo.trans hx4).trans hx5
      have hM5 : Made3 n W w5 gc gt gs go := ⟨hX5, (((hC).ext (hxt.trans hXt)).ext hxoE).ext (hx4.trans hx5), ((hT).ext hxoE).ext (hx4.trans hx5), ((show RowBk encOw w3c go 133 (List.replicate n Ow.zero) from hO)).ext (hx4.trans hx5), by have := hEt.size; omega⟩
      have hM6 := hM5.more ((Ext.refl w5).alloc (.cells #[.int .i64 0, .slice none 0 0, .int .i64 0, .int .i64 (-1), .pointer none, .pointer (some ⟨gc, 0, none⟩), .pointer (some ⟨gt, 0, none⟩), .slice (some ⟨go, 0, none⟩) n n, .slice none 0 0] 90))
      have hlk := hX5.size
      refine hK _ _ hM6.ext ?_
      clear hK K
      generalize w5.heap.size = gk at *
      generalize w5.alloc _ = w5c at *
      refine wpX_want (i := 11) (by kernel_rfl) rfl (by simp [Region.wanted, yielded]) ?_
      intro w6 hx6 K hK
      go_simp
      refine hK _ _ (hM6.ext.trans hx6) ?_
      clear hK K
      refine wpX_done (by kernel_rfl) (fun w7 hx7 => ⟨gc, gt, go, gk, rfl, gs, hM6.more (hx6.trans hx7), hKB.ext (hx6.trans hx7), hlk⟩) _
    · intro w3 hxo K hK
      go_simp
      have hO := Blk.new w3 ((List.replicate n Ow.zero).flatMap encOw).toArray 133
      have hxoE := hxo.alloc (.cells ((List.replicate n Ow.zero).flatMap encOw).toArray 133)
      have hEo := (hEc.trans hxo).alloc (.cells ((List.replicate n Ow.zero).flatMap encOw).toArray 133)
      have hlo : W.heap.size ≤ w3.heap.size := (hEc.trans hxo).size
      refine hK _ _ hEo ?_
      clear hK K
      generalize w3.heap.size = go at *
      generalize w3.alloc _ = w3c at *
      refine wpX_want (i := 4) (by kernel_rfl) rfl (by simp [Region.wanted, yielded]) ?_
      intro w2 hxt K hK
      go_simp
      refine (new_tab n w2 HN.out).mono ?_
      rintro e w2c ⟨gt, gs, rfl, hT, l1, l2, hXt⟩
      have hEt := (hEo.trans hxt).trans hXt
      have hlt : W.heap.size ≤ w2.heap.size := (hEo.trans hxt).size
      refine hK _ _ hEt ?_
      clear hK K
      refine wpX_want (i := 9) (by kernel_rfl) rfl (by simp [Region.wanted, yielded]) ?_
      intro w4 hx4 K hK
      go_simp
      refine hK _ _ (hEt.trans hx4) ?_
      clear hK K
      refine wpX_want (i := 10) (by kernel_rfl) rfl (by simp [Region.wanted, yielded]) ?_
      intro w5 hx5 K hK
      go_simp
      have hKB := Blk.new w5 #[.int .i64 0, .slice none 0 0, .int .i64 0, .int .i64 (-1), .pointer none, .pointer (some ⟨gc, 0, none⟩), .pointer (some ⟨gt, 0, none⟩), .slice (some ⟨go, 0, none⟩) n n, .slice none 0 0] 90
      have hX5 := (hEt.trans hx4).trans hx5
      have hM5 : Made3 n W w5 gc gt gs go := ⟨hX5, (((hC).ext hxoE).ext (hxt.trans hXt)).ext (hx4.trans hx5), (hT).ext (hx4.trans hx5), (((show RowBk encOw w3c go 133 (List.replicate n Ow.zero) from hO)).ext (hxt.trans hXt)).ext (hx4.trans hx5), by have := hEt.size; omega⟩
      have hM6 := hM5.more ((Ext.refl w5).alloc (.cells #[.int .i64 0, .slice none 0 0, .int .i64 0, .int .i64 (-1), .pointer none, .pointer (some ⟨gc, 0, none⟩), .pointer (some ⟨gt, 0, none⟩), .slice (some ⟨go, 0, none⟩) n n, .slice none 0 0] 90))
      have hlk := hX5.size
      refine hK _ _ hM6.ext ?_
      clear hK K
      generalize w5.heap.size = gk at *
      generalize w5.alloc _ = w5c at *
      refine wpX_want (i := 11) (by kernel_rfl) rfl (by simp [Region.wanted, yielded]) ?_
      intro w6 hx6 K hK
      go_simp
      refine hK _ _ (hM6.ext.trans hx6) ?_
      clear hK K
      refine wpX_done (by kernel_rfl) (fun w7 hx7 => ⟨gc, gt, go, gk, rfl, gs, hM6.more (hx6.trans hx7), hKB.ext (hx6.trans hx7), hlk⟩) _
  · intro w3 hxo K hK
    go_simp
    have hO := Blk.new w3 ((List.replicate n Ow.zero).flatMap encOw).toArray 133
    have hxoE := hxo.alloc (.cells ((List.replicate n Ow.zero).flatMap encOw).toArray 133)
    have hEo := hxo.alloc (.cells ((List.replicate n Ow.zero).flatMap encOw).toArray 133)
    have hlo : W.heap.size ≤ w3.heap.size := hxo.size
    refine hK _ _ hEo ?_
    clear hK K
    generalize w3.heap.size = go at *
    generalize w3.alloc _ = w3c at *
    refine wpX_want (i := 0) (by kernel_rfl) rfl (by simp [Region.wanted, yielded]) ?_
    intro w1 hxc K hK
    go_simp
    refine (news_cache w1).mono ?_
    rintro e w1c ⟨rfl, hC, hXc⟩
    have hEc := (hEo.trans hxc).trans hXc
    have hlc : W.heap.size ≤ w1.heap.size := (hEo.trans hxc).size
    refine hK _ _ hEc ?_
    clear hK K
    generalize w1.heap.size = gc at *
    refine wpX_want (i := 4) (by kernel_rfl) rfl (by simp [Region.wanted, yielded]) ?_
    intro w2 hxt K hK
    go_simp
    refine (new_tab n w2 HN.out).mono ?_
    rintro e w2c ⟨gt, gs, rfl, hT, l1, l2, hXt⟩
    have hEt := (hEc.trans hxt).trans hXt
    have hlt : W.heap.size ≤ w2.heap.size := (hEc.trans hxt).size
    refine hK _ _ hEt ?_
    clear hK K
    refine wpX_want (i := 9) (by kernel_rfl) rfl (by simp [Region.wanted, yielded]) ?_
    intro w4 hx4 K hK
    go_simp
    refine hK _ _ (hEt.trans hx4) ?_
    clear hK K
    refine wpX_want (i := 10) (by kernel_rfl) rfl (by simp [Region.wanted, yielded]) ?_
    intro w5 hx5 K hK
    go_simp
    have hKB := Blk.new w5 #[.int .i64 0, .slice none 0 0, .int .i64 0, .int .i64 (-1), .pointer none, .pointer (some ⟨gc, 0, none⟩), .pointer (some ⟨gt, 0, none⟩), .slice (some ⟨go, 0, none⟩) n n, .slice none 0 0] 90
    have hX5 := (hEt.trans hx4).trans hx5
    have hM5 : Made3 n W w5 gc gt gs go := ⟨hX5, ((hC).ext (hxt.trans hXt)).ext (hx4.trans hx5), (hT).ext (hx4.trans hx5), ((((show RowBk encOw w3c go 133 (List.replicate n Ow.zero) from hO)).ext (hxc.trans hXc)).ext (hxt.trans hXt)).ext (hx4.trans hx5), by have := hEt.size; omega⟩
    have hM6 := hM5.more ((Ext.refl w5).alloc (.cells #[.int .i64 0, .slice none 0 0, .int .i64 0, .int .i64 (-1), .pointer none, .pointer (some ⟨gc, 0, none⟩), .pointer (some ⟨gt, 0, none⟩), .slice (some ⟨go, 0, none⟩) n n, .slice none 0 0] 90))
    have hlk := hX5.size
    refine hK _ _ hM6.ext ?_
    clear hK K
    generalize w5.heap.size = gk at *
    generalize w5.alloc _ = w5c at *
    refine wpX_want (i := 11) (by kernel_rfl) rfl (by simp [Region.wanted, yielded]) ?_
    intro w6 hx6 K hK
    go_simp
    refine hK _ _ (hM6.ext.trans hx6) ?_
    clear hK K
    refine wpX_done (by kernel_rfl) (fun w7 hx7 => ⟨gc, gt, go, gk, rfl, gs, hM6.more (hx6.trans hx7), hKB.ext (hx6.trans hx7), hlk⟩) _
  intro gc gt go gk W2 hG3
  obtain ⟨gs, hM, hKB, hlow⟩ := hG3
  have hc2 := hc W2 hM.ext
  have hk2 := hKB.cell
  have hkf := hKB.free
  go_upto_region 6 with (fail)
  have hK4 := (hKB.set 0 (.int .i64 s.reload)).set 1 (.slice none 0 0)
  simp only [List.setIfInBounds_toArray, List.set_cons_zero, List.set_cons_succ] at hK4
  subst hn hgs
  have hcc4 : Chg (fun q => q = gk) W2 ((W2.setCell ⟨gk, 0, none⟩ (.int .i64 s.reload)).setCell ⟨gk, 1, none⟩ (.slice none 0 0)) := ((Chg.refl (fun q => q = gk) W2).set (g := gk) (i := 0) (.inl rfl) (.int .i64 s.reload)).set (g := gk) (i := 1) (.inl rfl) (.slice none 0 0)
  have hF4 := FT.one hKB
  have hlow2 : w.heap.size ≤ gk := Nat.le_trans hXW.size hlow
  have hNS : NewS s w ((W2.setCell ⟨gk, 0, none⟩ (.int .i64 s.reload)).setCell ⟨gk, 1, none⟩ (.slice none 0 0)) gc gt gs go gk 0 0 (.slice none 0 0) (.slice none 0 0) [] := ⟨((hXW.trans hM.ext).set hlow2 _).set hlow2 _, hM.cache.chg hcc4 (hF4.no hM.cache.box rfl), hM.tab.chg hcc4 (hF4.no hM.tab.box rfl) (hF4.no hM.tab.row rfl), hM.row.chg hcc4 (hF4.no hM.row rfl), hK4, PutOwn.nil, rfl, OwnL.nil, fun p hp => absurd hp (by simp), hlow2⟩
  have hlow5 : w.heap.size ≤ gs ∧ w.heap.size ≤ gc ∧ w.heap.size ≤ go := by
    have h1 := hM.low
    have h2 := hXW.size
    omega
  have HLOW := Lib.hid hlow5
  clear hlow5
  have hset2 := ((hBW.ext hM.ext).chg hcc4 (hF4.no (hBW.ext hM.ext) rfl)).cell
  have HNS := Lib.hid hNS
  have HSB := Lib.hid hBW
  have HXW := Lib.hid hXW
  clear hcc4 hF4 hNS hK4 hk2 hkf hKB hM hBW
  generalize World.setCell _ _ _ = W4 at HNS hset2 ⊢
  have hcW : ∀ w', Ext W w' → ∀ j, w'.cell? ⟨w.heap.size, j, none⟩ = #[.int .i64 s.reload, .slice A s.tasks.length c][j]? := hc
  have hn2 := HN.out.2
  go_wp2_with (fail)
  go_loopw [5, 31] (fun v5 i wr => ∃ (m : Nat) (vt vp : Value) (ps : List (Tsk × Value)), m ≤ s.tasks.length ∧ i = .int .i64 m ∧ v5 = vp ∧ NewS s w wr gc gt gs go gk m m vt vp ps) (fun _ i _ => s.tasks.length - (intOf i).toNat)
  case atStart => exact ⟨0, _, _, [], Nat.zero_le _, rfl, rfl, HNS.out⟩
  case round =>
    obtain ⟨m, vt, vp, ps, hm, rfl, rfl, hNS⟩ := hrel
    by_cases hlt : m < s.tasks.length
    · obtain ⟨bt, ot, r, rfl, hat⟩ := (HV.out.ext hNS.ext).at hlt
      obtain ⟨hIr, t0, t1, t2, t3, t4, t5, t6, t7, t8⟩ := hat
      have HIr := Lib.hid hIr
      obtain ⟨Ar, cr, rfl, _, _, hIx⟩ := hIr
      clear hIx
      have HNS5 := Lib.hid hNS
      clear hNS
      obtain ⟨Av, cv, rfl, hcl, hcm2⟩ := OwnL.form HNS5.out.put.1
      obtain ⟨Ap, cp, hvp, hcl3, hcm3⟩ := OwnL.form HNS5.out.per
      have hps : ps.length = m := by have := congrArg List.length HNS5.out.eq; rw [List.length_map, List.length_take] at this; omega
      have hpp : ((s.tasks.take m).map (·.T)).length = m := by rw [List.length_map, List.length_take]; omega
      have HPS := Lib.hid hps
      have HPP := Lib.hid hpp
      rw [hpp] at hvp hcl3
      subst hvp
      clear hps hpp
      go_upto_region 9 with (fail)
      have hfl : ((s.tasks[m]).regs.map (Value.int .i64)).length = (s.tasks[m]).regs.length * 1 := by simp
      have hrg := hs.regs m hlt
      rw [tk_at s hlt] at hrg
      have HRG := Lib.hid hrg
      have HFL := Lib.hid hfl
      have hTB := Blk.new wr #[.string (s.tasks[m]).name, .int .i64 (s.tasks[m]).T, .int .i64 (s.tasks[m]).D, .int .i64 (s.tasks[m]).mode, .int .i64 (s.tasks[m]).q, .int .i64 (s.tasks[m]).theta, .slice Ar (s.tasks[m]).regs.length cr, .int .u64 (s.tasks[m]).ecb, .int .u64 (s.tasks[m]).ucb] 38
      have hE5 := (Ext.refl wr).alloc (.cells #[.string (s.tasks[m]).name, .int .i64 (s.tasks[m]).T, .int .i64 (s.tasks[m]).D, .int .i64 (s.tasks[m]).mode, .int .i64 (s.tasks[m]).q, .int .i64 (s.tasks[m]).theta, .slice Ar (s.tasks[m]).regs.length cr, .int .u64 (s.tasks[m]).ecb, .int .u64 (s.tasks[m]).ucb] 38)
      have hg5 := hTB.lt
      clear hrg hfl t0 t1 t2 t3 t4 t5 t6 t7 t8
      generalize wr.alloc _ = W5 at hTB hE5 hg5 ⊢
      obtain ⟨g5, hq5⟩ : ∃ g, g = wr.heap.size := ⟨_, rfl⟩
      rw [← hq5] at hTB hg5 ⊢
      have HQ5 := Lib.hid hq5
      clear hq5
      have hne5 : (Value.slice (some ⟨W5.heap.size, 0, none⟩) 0 0).ownBlock ≠ some g5 := fun e => by have := Option.some.inj (show some W5.heap.size = some g5 from e); omega
      have hT5 := hTB.cell
      go_upto_region 10 with (at_builtin; (refine wpList_append_row rfl _ _ 35 rfl W5.heap.size 2 Tryz.underlying35 infoI64 rfl (by decide) _ 0 [] rfl ?_ Ar (s.tasks[m]).regs.length cr ((s.tasks[m]).regs.map (Value.int .i64)) rfl HFL.out ?_ ?_ ?_ ?_ ?_ ?_; (· exact own_empty_n (Nat.le_refl _)); (· exact (HIr.out).news (hE5.alloc _)); (· exact fun u hu => by obtain ⟨x, _, rfl⟩ := List.mem_map.1 hu; rfl); (· have := HRG.out.2.1; omega); (· have := HRG.out.2.1; unfold maxLen; omega); (· rw [size_alloc]; omega); (intro v6 w6 hown6 hg6 hloc6 _; simp only [Nat.zero_add, List.nil_append] at hown6; obtain ⟨A6, c6, rfl⟩ := own_slice hown6; have hT6 := (hTB.ext ((Ext.refl W5).alloc (.cells #[] 2))).grown hg6 hne5; have hT6c := hT6.cell; have hT6f := hT6.free; clear hT5)))
      have hge5 : wr.heap.size ≤ g5 := by rw [HQ5.out]; exact Nat.le_refl _
      have hE6 : Ext wr w6 := (hE5.alloc (.cells #[] 2)).grown hg6 (fun k e => by have := Option.some.inj (show some W5.heap.size = some k from e); omega)
      have hE7 := hE6.set (i := 6) hge5 (.slice A6 (s.tasks[m]).regs.length c6)
      have hB7 := hT6.set 6 (.slice A6 (s.tasks[m]).regs.length c6)
      simp only [List.setIfInBounds_toArray, List.set_cons_zero, List.set_cons_succ] at hB7
      have hR6 : RowI w6 W5.heap.size (.slice A6 (s.tasks[m]).regs.length c6) (s.tasks[m]).regs := by
        unfold RowI OwnL
        rw [encI_flat]
        exact hown6
      have hR7 : RowI (w6.setCell ⟨g5, 6, none⟩ (.slice A6 (s.tasks[m]).regs.length c6)) W5.heap.size (.slice A6 (s.tasks[m]).regs.length c6) (s.tasks[m]).regs := OwnL.set hR6 (a := ⟨g5, 6, none⟩) (fun e => by have := (OwnL.lt hR6 g5 e).1; omega) _
      have hN7 := HNS5.out.more hE7
      have hWr : wr.heap.size ≤ W5.heap.size := by omega
      have hd : ∀ p ∈ ps, ∀ k, p.2.ownBlock = some k → (Value.slice A6 (s.tasks[m]).regs.length c6).ownBlock ≠ some k := fun p hp k hk e => by
        have h1 := (OwnL.lt (HNS5.out.put.2.1 p hp) k hk).2
        have h2 := (OwnL.lt hR6 k e).1
        omega
      have hd2 : ∀ q, (Value.slice Ap m cp).ownBlock = some q → (Value.slice A6 (s.tasks[m]).regs.length c6).ownBlock ≠ some q := fun k hk e => by
        have h1 := (OwnL.lt HNS5.out.per k hk).2
        have h2 := (OwnL.lt hR6 k e).1
        omega
      have hR7' : RowI _ w.heap.size _ _ := OwnL.lower hR7 (by have := HNS5.out.ext.size; omega)
      have HD := Lib.hid hd
      have HD2 := Lib.hid hd2
      clear hd hd2 hT6 hT6c hT6f hE6 hE5 hTB hR6 hR7 hown6 hg6 hloc6
      generalize w6.setCell _ _ = W7 at hE7 hB7 hR7' hN7 ⊢
      have hKB7 := hN7.box
      have hS7 : KTBox gk g5 #[.int .i64 s.reload, .slice Av ps.length cv, .int .i64 0, .int .i64 (-1), .pointer none, .pointer (some ⟨gc, 0, none⟩), .pointer (some ⟨gt, 0, none⟩), .slice (some ⟨go, 0, none⟩) s.tasks.length s.tasks.length, .slice none 0 0] #[.string (s.tasks[m]).name, .int .i64 (s.tasks[m]).T, .int .i64 (s.tasks[m]).D, .int .i64 (s.tasks[m]).mode, .int .i64 (s.tasks[m]).q, .int .i64 (s.tasks[m]).theta, .slice A6 (s.tasks[m]).regs.length c6, .int .u64 (s.tasks[m]).ecb, .int .u64 (s.tasks[m]).ucb] W7 := ⟨hKB7, hB7⟩
      have hk7 : ∀ w', KTBox gk g5 #[.int .i64 s.reload, .slice Av ps.length cv, .int .i64 0, .int .i64 (-1), .pointer none, .pointer (some ⟨gc, 0, none⟩), .pointer (some ⟨gt, 0, none⟩), .slice (some ⟨go, 0, none⟩) s.tasks.length s.tasks.length, .slice none 0 0] #[.string (s.tasks[m]).name, .int .i64 (s.tasks[m]).T, .int .i64 (s.tasks[m]).D, .int .i64 (s.tasks[m]).mode, .int .i64 (s.tasks[m]).q, .int .i64 (s.tasks[m]).theta, .slice A6 (s.tasks[m]).regs.length c6, .int .u64 (s.tasks[m]).ecb, .int .u64 (s.tasks[m]).ucb] w' → ∀ j, w'.cell? ⟨gk, j, none⟩ = #[.int .i64 s.reload, .slice Av ps.length cv, .int .i64 0, .int .i64 (-1), .pointer none, .pointer (some ⟨gc, 0, none⟩), .pointer (some ⟨gt, 0, none⟩), .slice (some ⟨go, 0, none⟩) s.tasks.length s.tasks.length, .slice none 0 0][j]? := fun w' h => Blk.cell h.1
      have ht7 : ∀ w', KTBox gk g5 #[.int .i64 s.reload, .slice Av ps.length cv, .int .i64 0, .int .i64 (-1), .pointer none, .pointer (some ⟨gc, 0, none⟩), .pointer (some ⟨gt, 0, none⟩), .slice (some ⟨go, 0, none⟩) s.tasks.length s.tasks.length, .slice none 0 0] #[.string (s.tasks[m]).name, .int .i64 (s.tasks[m]).T, .int .i64 (s.tasks[m]).D, .int .i64 (s.tasks[m]).mode, .int .i64 (s.tasks[m]).q, .int .i64 (s.tasks[m]).theta, .slice A6 (s.tasks[m]).regs.length c6, .int .u64 (s.tasks[m]).ecb, .int .u64 (s.tasks[m]).ucb] w' → ∀ j, w'.cell? ⟨g5, j, none⟩ = #[.string (s.tasks[m]).name, .int .i64 (s.tasks[m]).T, .int .i64 (s.tasks[m]).D, .int .i64 (s.tasks[m]).mode, .int .i64 (s.tasks[m]).q, .int .i64 (s.tasks[m]).theta, .slice A6 (s.tasks[m]).regs.length c6, .int .u64 (s.tasks[m]).ecb, .int .u64 (s.tasks[m]).ucb][j]? := fun w' h => Blk.cell h.2
      have HN7 := Lib.hid hN7
      have HR7 := Lib.hid hR7'
      clear hN7 hR7' hKB7
      refine wp_region_mixZ (T := [7, 8, 12]) (z := 12) (S := KTBox gk g5 #[.int .i64 s.reload, .slice Av ps.length cv, .int .i64 0, .int .i64 (-1), .pointer none, .pointer (some ⟨gc, 0, none⟩), .pointer (some ⟨gt, 0, none⟩), .slice (some ⟨go, 0, none⟩) s.tasks.length s.tasks.length, .slice none 0 0] #[.string (s.tasks[m]).name, .int .i64 (s.tasks[m]).T, .int .i64 (s.tasks[m]).D, .int .i64 (s.tasks[m]).mode, .int .i64 (s.tasks[m]).q, .int .i64 (s.tasks[m]).theta, .slice A6 (s.tasks[m]).regs.length c6, .int .u64 (s.tasks[m]).ecb, .int .u64 (s.tasks[m]).ucb]) (W := W7) (fun _ _ h hx => h.ext hx) (by kernel_rfl) (by kernel_rfl) (by kernel_rfl) (Ext.refl W7).drew hS7 (fun _ _ h => h) (fun K hK => ?_)
      (repeat (first | (refine hX_skip ?_ ?_; (· rfl)) | (apply hX_and; (· rfl); (· rfl); (· rfl); (· rfl); (· rfl); simp only [Act.put, List.setIfInBounds_toArray, List.set_cons_zero, List.set_cons_succ]) | (apply hX_or; (· rfl); (· rfl); (· rfl); (· rfl); (· rfl); simp only [Act.put, List.setIfInBounds_toArray, List.set_cons_zero, List.set_cons_succ]) | (apply hX_off; (· rfl); (· rfl); (· rfl); simp only [Act.put, List.setIfInBounds_toArray, List.set_cons_zero, List.set_cons_succ]) | (apply hX_val; (· rfl); (· intro w hS; go_simp; with_reducible rfl); (· rfl); simp only [Act.put, List.setIfInBounds_toArray, List.set_cons_zero, List.set_cons_succ]) | (apply hX_call; (· rfl); (· rfl); (· intro w hS; go_simp; exact ⟨rfl, rfl⟩); (· intro w hS; fail); simp only [Act.put, List.setIfInBounds_toArray, List.set_cons_zero, List.set_cons_succ]) | (apply hX_if; (· rfl); (· rfl); (· rfl); (· intro hif w hS; go_simp; with_reducible rfl); simp only [Act.put, List.setIfInBounds_toArray, List.set_cons_zero, List.set_cons_succ]) | (apply hX_ifcall; (· rfl); (· rfl); (· rfl); (· intro hif w hS; go_simp; exact ⟨rfl, rfl⟩); (· intro hif w hS; fail); simp only [Act.put, List.setIfInBounds_toArray, List.set_cons_zero, List.set_cons_succ]))); refine hX_nil ?_
      refine hK _ ?_
      clear hK K
      refine wpZ_want (i := 7) (by kernel_rfl) rfl (by simp [Region.wanted, yielded]) ?_
      intro w8 hx8 K hK
      go_simp
      have hE8 := hx8.alloc (.cells #[.string (s.tasks[m]).name, .int .i64 (s.tasks[m]).T, .int .i64 (s.tasks[m]).D, .int .i64 (s.tasks[m]).mode, .int .i64 (s.tasks[m]).q, .int .i64 (s.tasks[m]).theta, .slice A6 (s.tasks[m]).regs.length c6, .int .u64 (s.tasks[m]).ecb, .int .u64 (s.tasks[m]).ucb] 38)
      have hN8 := Blk.new w8 #[.string (s.tasks[m]).name, .int .i64 (s.tasks[m]).T, .int .i64 (s.tasks[m]).D, .int .i64 (s.tasks[m]).mode, .int .i64 (s.tasks[m]).q, .int .i64 (s.tasks[m]).theta, .slice A6 (s.tasks[m]).regs.length c6, .int .u64 (s.tasks[m]).ecb, .int .u64 (s.tasks[m]).ucb] 38
      refine hK _ _ (hS7.ext hE8) ?_
      clear hK K hx8
      generalize w8.heap.size = g8 at hN8 ⊢
      generalize w8.alloc _ = W8 at hN8 hE8 ⊢
      refine wpZ_want (i := 8) (by kernel_rfl) rfl (by simp [Region.wanted, yielded]) ?_
      intro w9 hx9 K hK
      have hE9 := hE8.trans hx9
      have hN9 := HN7.out.more hE9
      refine wp_push _ _ 22 rfl w.heap.size 38 Tryz.underlying22 infoTask rfl (by decide) (by decide) encT ps _ rfl hN9.put.1 (s.tasks[m], .slice A6 (s.tasks[m]).regs.length c6) g8 #[.string (s.tasks[m]).name, .int .i64 (s.tasks[m]).T, .int .i64 (s.tasks[m]).D, .int .i64 (s.tasks[m]).mode, .int .i64 (s.tasks[m]).q, .int .i64 (s.tasks[m]).theta, .slice A6 (s.tasks[m]).regs.length c6, .int .u64 (s.tasks[m]).ecb, .int .u64 (s.tasks[m]).ucb] 38 rfl (hN8.ext hx9) rfl rfl (encT_one _ rfl) (by have := HPS.out; omega) (by have := hN9.ext.size; omega) ?_
      intro v10 w10 hown10 hg10 hloc10 _
      have hS9 := hS7.ext hE9
      have hne9 : gk ≠ g5 := hS7.1.apart hS7.2 (by decide)
      have hB10 : KTBox gk g5 #[.int .i64 s.reload, .slice Av ps.length cv, .int .i64 0, .int .i64 (-1), .pointer none, .pointer (some ⟨gc, 0, none⟩), .pointer (some ⟨gt, 0, none⟩), .slice (some ⟨go, 0, none⟩) s.tasks.length s.tasks.length, .slice none 0 0] #[.string (s.tasks[m]).name, .int .i64 (s.tasks[m]).T, .int .i64 (s.tasks[m]).D, .int .i64 (s.tasks[m]).mode, .int .i64 (s.tasks[m]).q, .int .i64 (s.tasks[m]).theta, .slice A6 (s.tasks[m]).regs.length c6, .int .u64 (s.tasks[m]).ecb, .int .u64 (s.tasks[m]).ucb] w10 := ⟨hS9.1.grown hg10 (own_ne_blk hN9.put.1 hS9.1 (by decide)), hS9.2.grown hg10 (fun e => by have := (OwnL.lt HNS5.out.put.1 g5 e).2; omega)⟩
      obtain ⟨A10, c10, rfl⟩ := own_slice hown10
      refine hK _ _ hB10 ?_
      clear hK K hx9 hN8 hE8 hS9
      refine wpZ_last (by kernel_rfl) rfl (by simp [Region.wanted, yielded]) ?_
      intro w11 hx11 K hK
      have hB11 := hB10.ext hx11
      have hc11 := hB11.1.cell
      have hf11 := hB11.1.free
      go_simp
      have hN11 := NewS.task hN9 hlt (OwnL.below HR7.out hE9.below) HD.out HD2.out (grown_ext hg10 hx11) (OwnL.below hown10 hx11.below)
      have hB12 := hB11.2.far (p := ⟨gk, 1, none⟩) hne9.symm (.slice A10 (ps.length + 1) c10)
      rw [List.length_append, List.length_singleton] at hN11
      refine hK _ _ ?_
      clear hK K hc11 hf11 hx11 hB10 hB11 hown10 hg10 hloc10 hN9 hE9
      generalize w11.setCell _ _ = W12 at hN11 hB12 ⊢
      refine wpZ_done (by kernel_rfl) (fun W13 hX13 => ?_) _
      have hN13 := hN11.more hX13
      have hB13 := hB12.ext hX13
      have hc13 := hB13.cell
      have HN13 := Lib.hid hN13
      clear hN11 hB12 hX13 hN13 hk7 ht7 hS7 hE7 hB7
      go_wp2_with (at_builtin; (refine wpList_push rfl _ _ 35 rfl w.heap.size 2 Tryz.underlying35 infoI64 rfl (by decide) (by decide) encI ((s.tasks.take m).map (·.T)) _ rfl (OwnL.alloc HN13.out.per _) (s.tasks[m]).T W13.heap.size #[.int .i64 (s.tasks[m]).T] 2 rfl (Blk.new _ _ _) rfl rfl (by simp [encI, Value.oneCell']) ?_ ?_ ?_; (· have := HPP.out; omega); (· have := HN13.out.ext.size; simp; omega); (intro v14 w14 hown14 hg14 hloc14 _)))
      have hA13 := HN13.out.more ((Ext.refl W13).alloc (.cells #[.int .i64 (s.tasks[m]).T] 2))
      exact ⟨⟨m + 1, _, _, _, hlt, rfl, rfl, hA13.period hlt hg14 hown14 hloc14⟩, by simp [intOf]; omega⟩
    · have hme : m = s.tasks.length := by omega
      subst hme
      have HNS5 := Lib.hid hNS
      clear hNS
      obtain ⟨Av, cv, rfl, hcl, hcm2⟩ := OwnL.form HNS5.out.put.1
      have hper := HNS5.out.per
      rw [List.take_length] at hper
      have hPn := new_pol (s.tasks.map (·.T)) _ wr hper.ints (by rw [List.length_map]; exact hn2) (fun x hx => by
        obtain ⟨t, ht, rfl⟩ := List.mem_map.1 hx
        obtain ⟨i, hi, rfl⟩ := List.mem_iff_getElem.1 ht
        have := hs.T i hi
        rw [tk_at s hi] at this
        omega)
      have HPn := Lib.hid hPn
      clear hPn
      go_wp2_with (fail)
      refine HPn.out.mono ?_
      rintro e W15 ⟨gp, vpp, rfl, hgp, hPol, hvpb, hX15⟩
      have hN15 := HNS5.out.more hX15
      have hB15 := hN15.box
      have hc15 := hB15.cell
      have hf15 := hB15.free
      have HN15 := Lib.hid hN15
      have HPol := Lib.hid hPol
      clear hPol hN15 hB15
      go_wp2_with (fail)
      refine bodyPost_ret (v := .tuple #[.pointer (some ⟨gk, 0, none⟩), .int .i64 0]) (by simp [results, Tryz.results14, go_sem, *]) rfl ⟨⟨gk, gp, gc, gt, gs, go, .slice Av ps.length cv, vpp, ps, 0⟩, rfl, ?_, HN15.out.ext.set hlow2 _⟩
      exact new_kat hs HN15.out HPol.out HLOW.out (by have := HNS5.out.ext.size; exact Nat.le_trans this hgp) (fun q hq => Nat.le_trans HNS5.out.ext.size (hvpb q hq))
end Go.Proofs.YtniejidekflmiaaGreatDoor
