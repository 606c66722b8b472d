/- Jobs. -/
import Derived.Test.YtniejidekflmiaaGreatDoorProg
import Derived.Test.YtniejidekflmiaaGreatDoorBase
import Derived.Test.YtniejidekflmiaaGreatDoorHeldX
import Derived.Test.YtniejidekflmiaaGreatDoorApp
import Derived.Test.YtniejidekflmiaaGreatDoorExt0
import Derived.Test.YtniejidekflmiaaGreatDoorChg
import Derived.Test.YtniejidekflmiaaGreatDoorRowB
import Derived.Test.YtniejidekflmiaaGreatDoorKM
import Derived.Test.YtniejidekflmiaaGreatDoorKP1
import Derived.Test.YtniejidekflmiaaGreatDoorOpenI
import Derived.Test.YtniejidekflmiaaGreatDoorTsk1
import Derived.Test.YtniejidekflmiaaGreatDoorKpol
import Derived.Deep.Cut
import Derived.Lib.Hide
import Derived.OwnWalk
import Derived.Maps.AppendAt
import Derived.BigQuiet
namespace Go.Proofs.YtniejidekflmiaaGreatDoor
open Go.RowKit
attribute [local go_sem] setCell_twice Ext.alloc Ext.drew
set_option linter.unusedSimpArgs false
set_option maxRecDepth 100000
set_option maxHeartbeats 400000
attribute [local irreducible] Calls

structure JobB (w : World) (base gj : Nat) (vr vd : Value) (tk : Int) (j : Jb) : Prop where
  box : Blk w gj #[vr, vd, .int .i64 j.k, .int .i64 j.n, .int .i64 tk, .int .i64 j.how] 167
  r : RowI w base vr j.r
  d : RowI w base vd j.d
def JobAt (w : World) (base gj : Nat) (j : Jb) : Prop := ∃ vr vd tk, JobB w base gj vr vd tk j
theorem JobB.chg {F : Nat → Prop} {w w' : World} {base gj : Nat} {vr vd : Value} {tk : Int} {j : Jb} (h : JobB w base gj vr vd tk j) (hx : Chg F w w') (h1 : ¬ F gj) (h2 : ∀ k, vr.ownBlock = some k → ¬ F k) (h3 : ∀ k, vd.ownBlock = some k → ¬ F k) : JobB w' base gj vr vd tk j :=
  ⟨h.box.chg hx h1, OwnL.chg h.r hx h2, OwnL.chg h.d hx h3⟩
/-- a change of blocks that bear no numbers and are not this job -/
theorem JobAt.chg {F : Nat → Prop} {w w' : World} {base gj : Nat} {j : Jb} (h : JobAt w base gj j) (hx : Chg F w w') (h1 : ¬ F gj) (h2 : ∀ k cs, base ≤ k → Blk w k cs 2 → ¬ F k) : JobAt w' base gj j := by
  obtain ⟨vr, vd, tk, h⟩ := h
  refine ⟨vr, vd, tk, h.chg hx h1 (fun k hk => ?_) (fun k hk => ?_)⟩
  · obtain ⟨cs, hB⟩ := OwnL.block h.r hk; exact h2 k cs (OwnL.lt h.r k hk).1 hB
  · obtain ⟨cs, hB⟩ := OwnL.block h.d hk; exact h2 k cs (OwnL.lt h.d k hk).1 hB
theorem JobAt.lower {w : World} {base base' gj : Nat} {j : Jb} (h : JobAt w base gj j) (hb : base' ≤ base) : JobAt w base' gj j := by
  obtain ⟨vr, vd, tk, h⟩ := h
  exact ⟨vr, vd, tk, h.box, OwnL.lower h.r hb, OwnL.lower h.d hb⟩
theorem JobAt.ext {w w' : World} {base gj : Nat} {j : Jb} (h : JobAt w base gj j) (hx : Ext w w') : JobAt w' base gj j := h.chg (F := fun _ => False) (Chg.of_ext hx) (fun f => f) (fun _ _ _ _ f => f)
/-- one cell of the job is written -/
theorem JobB.set {w : World} {base gj i : Nat} {vr vd : Value} {tk : Int} {j : Jb} (h : JobB w base gj vr vd tk j) (u : Value) {cs : Array Value} (he : (#[vr, vd, .int .i64 j.k, .int .i64 j.n, .int .i64 tk, .int .i64 j.how] : Array Value).setIfInBounds i u = cs) :
    Blk (w.setCell ⟨gj, i, none⟩ u) gj cs 167 ∧ RowI (w.setCell ⟨gj, i, none⟩ u) base vr j.r ∧ RowI (w.setCell ⟨gj, i, none⟩ u) base vd j.d := by
  refine ⟨?_, ?_, ?_⟩
  · rw [← he]; exact Blk.set h.box i u
  · exact OwnL.set h.r (a := ⟨gj, i, none⟩) (own_ne_blk h.r h.box (by decide)) u
  · exact OwnL.set h.d (a := ⟨gj, i, none⟩) (own_ne_blk h.d h.box (by decide)) u
theorem JobB.drewN {w : World} {base gj : Nat} {vr vd : Value} {tk : Int} {j : Jb} (h : JobB w base gj vr vd tk j) (n : Nat) : JobB (w.drewN n) base gj vr vd tk j := ⟨h.box, h.r, h.d⟩
theorem row_at {w : World} {base : Nat} {v : Value} {xs : List Int} {k : Nat} (h : RowI w base v xs) (hk : k < xs.length) : ∃ b o c, v = .slice (some ⟨b, o, none⟩) xs.length c ∧ xs.length ≤ c ∧ c ≤ maxLen ∧ w.cell? ⟨b, o + k, none⟩ = some (.int .i64 (xs.getD k 0)) := by
  obtain ⟨A, c, rfl, h1, h2⟩ := OwnL.form h
  obtain ⟨b, o, rfl, hx⟩ := (RowI.ints h).at hk
  refine ⟨b, o, c, rfl, h1, h2, ?_⟩
  rw [getD_at hk]
  exact hx w (Ext.refl w)
theorem mid_job (base gj : Nat) (j : Jb) (w : World) (h : JobAt w base gj j) :
    Calls Tryz.prog 77 #[.pointer (some ⟨gj, 0, none⟩)] w fun e w' => e = .returned (.bool j.mid) ∧ w = w' := by
  obtain ⟨vr, vd, tk, hB, _, _⟩ := h
  have c3 := hB.cell 3
  simp only [List.getElem?_toArray, List.getElem?_cons_zero, List.getElem?_cons_succ] at c3
  go_enter Tryz.func77, Tryz.ntmps77
  go_wp2_with (fail)
  go_ret
  exact ⟨rfl, by first | trivial | rfl⟩
theorem step_job (base gj : Nat) (rs : List Int) (j : Jb) (w : World) (h : JobAt w base gj j) (hk : JOk rs j) (hr : ∀ x ∈ rs, 1 ≤ x ∧ x ≤ 10000) (hl : rs.length ≤ 8) :
    Calls Tryz.prog 76 #[.pointer (some ⟨gj, 0, none⟩)] w fun e w' => e = .returned (.tuple #[.int .i64 j.step.2.1, .int .i64 j.step.2.2]) ∧ JobAt w' base gj j.step.1 ∧ Chg (fun q => q = gj) w w' := by
  obtain ⟨vr, vd, tk, hJ⟩ := h
  obtain ⟨e1, e2, _, e3, e4, e5⟩ := hk
  have hrk := hr _ (getD_mem (l := rs) e4 0)
  obtain ⟨r, d, k, n, how⟩ := j
  dsimp only at e1 e2 e3 e4 e5
  subst e1 e3
  dsimp only at hrk
  obtain ⟨hn0, hn1, hn2⟩ := e5
  have hn3 : n < 10000 := by omega
  have hB := hJ.box
  have c2 := hB.cell 2
  have c3 := hB.cell 3
  have c4 := hB.cell 4
  have c5 := hB.cell 5
  have f3 := Blk.free hB 3
  have f4 := Blk.free hB 4
  simp only [List.getElem?_toArray, List.getElem?_cons_zero, List.getElem?_cons_succ] at c2 c3 c4 c5
  go_enter Tryz.func76, Tryz.ntmps76
  go_upto_region 8 with (fail)
  have j1 := hJ.set (i := 4) (.int .i64 (wrap64 (tk + 1))) rfl
  have hJ1 : JobB (w.setCell ⟨gj, 4, none⟩ (.int .i64 (wrap64 (tk + 1)))) base gj vr vd (wrap64 (tk + 1)) ⟨r, d, k, n, 0⟩ := ⟨j1.1, j1.2.1, j1.2.2⟩
  have j2 := hJ1.set (i := 3) (.int .i64 (n + 1)) rfl
  have hJ2 : JobB ((w.setCell ⟨gj, 4, none⟩ (.int .i64 (wrap64 (tk + 1)))).setCell ⟨gj, 3, none⟩ (.int .i64 (n + 1))) base gj vr vd (wrap64 (tk + 1)) ⟨r, d, k, n + 1, 0⟩ := ⟨j2.1, j2.2.1, j2.2.2⟩
  have hC2 := ((Chg.refl (fun q => q = gj) w).set (i := 4) (.inl rfl) (.int .i64 (wrap64 (tk + 1)))).set (i := 3) (.inl rfl) (.int .i64 (n + 1))
  clear j1 j2 hJ1 hJ hB f3 f4 c2 c3 c4 c5
  generalize (w.setCell ⟨gj, 4, none⟩ (.int .i64 (wrap64 (tk + 1)))).setCell ⟨gj, 3, none⟩ (.int .i64 (n + 1)) = W2 at hJ2 hC2 ⊢
  generalize wrap64 (tk + 1) = tk2 at hJ2 ⊢
  obtain ⟨br, obr, cr, rfl, hr1, hr2, xr⟩ := row_at hJ2.r e4
  obtain ⟨bd, od, cd, rfl, hd1, hd2, xd⟩ := row_at (k := k) hJ2.d (by dsimp only; omega)
  dsimp only at xr xd hr1 hd1
  have hB := hJ2.box
  have c0 := hB.cell 0
  have c1 := hB.cell 1
  have c2 := hB.cell 2
  have c3 := hB.cell 3
  have c5 := hB.cell 5
  have f2 := Blk.free hB 2
  have f3 := Blk.free hB 3
  have f5 := Blk.free hB 5
  simp only [List.getElem?_toArray, List.getElem?_cons_zero, List.getElem?_cons_succ] at c0 c1 c2 c3 c5
  have hS : Hid (Jb.step ⟨r, d, k, n, 0⟩ = if n + 1 = d.getD k 0 then (if k + 1 = r.length then (⟨r, d, k + 1, 0, 2⟩, (k : Int), 2) else (⟨r, d, k + 1, 0, 0⟩, (k : Int), 1)) else if n + 1 = r.getD k 0 then (⟨r, d, k, n + 1, 3⟩, (k : Int), 3) else (⟨r, d, k, n + 1, 0⟩, (k : Int), 0)) := Lib.hid rfl
  have HJ := Lib.hid hJ2
  have HC := Lib.hid hC2
  clear hJ2 hC2 hr
  generalize d.getD k 0 = dk at *
  generalize r.getD k 0 = rk at *
  generalize r.length = rl at *
  have hm : d.length = rl := e2
  generalize d.length = dl at *
  subst hm
  by_cases q1 : n + 1 = dk
  · have q1d : (n + 1 == dk) = true := by simp [q1]
    by_cases q2 : k + 1 = dl
    · have q2d : ((k : Int) == (dl : Int) - 1) = true := by simp; omega
      have Q2 := Lib.hid q2
      have hE := hS.out
      rw [if_pos q1, if_pos q2] at hE
      clear q2
      have HE := Lib.hid hE
      clear hE hS q1
      go_quiet (fail)
      go_wp2_with (fail)
      refine bodyPost_ret (v := .tuple #[.int .i64 k, .int .i64 2]) (by simp [results, Tryz.results76, go_sem, *]) rfl ?_
      rw [HE.out]
      have j3 := fun m => (HJ.out.drewN m).set (i := 5) (.int .i64 2) rfl
      have j4 := fun m => (JobB.mk (j := ⟨r, d, k, n + 1, 2⟩) (j3 m).1 (j3 m).2.1 (j3 m).2.2).set (i := 2) (.int .i64 ((k + 1 : Nat) : Int)) rfl
      have j5 := fun m => (JobB.mk (j := ⟨r, d, k + 1, n + 1, 2⟩) (j4 m).1 (j4 m).2.1 (j4 m).2.2).set (i := 3) (.int .i64 0) rfl
      exact ⟨rfl, ⟨_, _, _, ⟨(j5 _).1, (j5 _).2.1, (j5 _).2.2⟩⟩, (((HC.out.drewN _).set (.inl rfl) _).set (.inl rfl) _).set (.inl rfl) _⟩
    · have q2d : ((k : Int) == (dl : Int) - 1) = false := by simp; omega
      have hE := hS.out
      rw [if_pos q1, if_neg q2] at hE
      have HE := Lib.hid hE
      clear hE hS q1
      go_quiet (fail)
      go_wp2_with (fail)
      go_quiet (fail)
      go_wp2_with (fail)
      refine bodyPost_ret (v := .tuple #[.int .i64 k, .int .i64 1]) (by simp [results, Tryz.results76, go_sem, *]) rfl ?_
      rw [HE.out]
      have j4 := fun m => (HJ.out.drewN m).set (i := 2) (.int .i64 ((k + 1 : Nat) : Int)) rfl
      have j5 := fun m => (JobB.mk (j := ⟨r, d, k + 1, n + 1, 0⟩) (j4 m).1 (j4 m).2.1 (j4 m).2.2).set (i := 3) (.int .i64 0) rfl
      exact ⟨rfl, ⟨_, _, _, ⟨(j5 _).1, (j5 _).2.1, (j5 _).2.2⟩⟩, ((HC.out.drewN _).set (.inl rfl) _).set (.inl rfl) _⟩
  · have q1d : (n + 1 == dk) = false := by simp [q1]
    by_cases q3 : n + 1 = rk
    · have q3d : (n + 1 == rk) = true := by simp [q3]
      have hE := hS.out
      rw [if_neg q1, if_pos q3] at hE
      have HE := Lib.hid hE
      clear hE hS q3
      go_quiet (fail)
      go_wp2_with (fail)
      go_quiet (fail)
      go_wp2_with (fail)
      go_quiet (fail)
      go_wp2_with (fail)
      refine bodyPost_ret (v := .tuple #[.int .i64 k, .int .i64 3]) (by simp [results, Tryz.results76, go_sem, *]) rfl ?_
      rw [HE.out]
      have j3 := fun m => (HJ.out.drewN m).set (i := 5) (.int .i64 3) rfl
      exact ⟨rfl, ⟨_, _, _, ⟨(j3 _).1, (j3 _).2.1, (j3 _).2.2⟩⟩, (HC.out.drewN _).set (.inl rfl) _⟩
    · have q3d : (n + 1 == rk) = false := by simp [q3]
      have hE := hS.out
      rw [if_neg q1, if_neg q3] at hE
      have HE := Lib.hid hE
      clear hE
      go_quiet (fail)
      go_wp2_with (fail)
      go_quiet (fail)
      go_wp2_with (fail)
      go_quiet (fail)
      go_wp2_with (fail)
      refine bodyPost_ret (v := .tuple #[.int .i64 k, .int .i64 0]) (by simp [results, Tryz.results76, go_sem, *]) rfl ?_
      rw [HE.out]
      exact ⟨rfl, ⟨_, _, _, ((HJ.out.drewN _).drewN _).drewN _⟩, ((HC.out.drewN _).drewN _).drewN _⟩
end Go.Proofs.YtniejidekflmiaaGreatDoor
