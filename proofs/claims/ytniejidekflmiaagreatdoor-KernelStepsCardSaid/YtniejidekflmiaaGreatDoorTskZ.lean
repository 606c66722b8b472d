/- Sets of tasks: how they read. -/
import Derived.Test.YtniejidekflmiaaGreatDoorProg
import Derived.Test.YtniejidekflmiaaGreatDoorBase
import Derived.Test.YtniejidekflmiaaGreatDoorHeldX
import Derived.Test.YtniejidekflmiaaGreatDoorTsk1
import Derived.Test.YtniejidekflmiaaGreatDoorTsk3
import Derived.WalkKit
namespace Go.Proofs.YtniejidekflmiaaGreatDoor
open Go.RowKit

section
variable {W w : World} {g g' : Nat} {t t' : TypeId} {z0 z1 z2 z3 z4 z5 z6 z7 z8 v0 v1 v2 v3 v4 v5 v6 v7 v8 : Value} {cs : Array Value}
theorem ext_ch9 (h : Ext W w) (hg : W.heap.size ≤ g) : Ext W (((((((((w.setCell ⟨g, 0, none⟩ v0).setCell ⟨g, 1, none⟩ v1).setCell ⟨g, 2, none⟩ v2).setCell ⟨g, 3, none⟩ v3).setCell ⟨g, 4, none⟩ v4).setCell ⟨g, 5, none⟩ v5).setCell ⟨g, 6, none⟩ v6).setCell ⟨g, 7, none⟩ v7).setCell ⟨g, 8, none⟩ v8) :=
  (((((((((h.set hg _).set hg _).set hg _).set hg _).set hg _).set hg _).set hg _).set hg _).set hg _)
theorem blk_ch9 (h : Blk w g #[z0, z1, z2, z3, z4, z5, z6, z7, z8] t) : Blk (((((((((w.setCell ⟨g, 0, none⟩ v0).setCell ⟨g, 1, none⟩ v1).setCell ⟨g, 2, none⟩ v2).setCell ⟨g, 3, none⟩ v3).setCell ⟨g, 4, none⟩ v4).setCell ⟨g, 5, none⟩ v5).setCell ⟨g, 6, none⟩ v6).setCell ⟨g, 7, none⟩ v7).setCell ⟨g, 8, none⟩ v8) g #[v0, v1, v2, v3, v4, v5, v6, v7, v8] t := by
  have h := (((((((((h.set 0 v0).set 1 v1).set 2 v2).set 3 v3).set 4 v4).set 5 v5).set 6 v6).set 7 v7).set 8 v8)
  simp only [List.setIfInBounds_toArray, List.set_cons_zero, List.set_cons_succ] at h
  exact h
theorem blk_ch9_far (h : Blk w g' cs t') (hne : g' ≠ g) : Blk (((((((((w.setCell ⟨g, 0, none⟩ v0).setCell ⟨g, 1, none⟩ v1).setCell ⟨g, 2, none⟩ v2).setCell ⟨g, 3, none⟩ v3).setCell ⟨g, 4, none⟩ v4).setCell ⟨g, 5, none⟩ v5).setCell ⟨g, 6, none⟩ v6).setCell ⟨g, 7, none⟩ v7).setCell ⟨g, 8, none⟩ v8) g' cs t' :=
  (((((((((h.far (p := ⟨g, 0, none⟩) hne v0).far (p := ⟨g, 1, none⟩) hne v1).far (p := ⟨g, 2, none⟩) hne v2).far (p := ⟨g, 3, none⟩) hne v3).far (p := ⟨g, 4, none⟩) hne v4).far (p := ⟨g, 5, none⟩) hne v5).far (p := ⟨g, 6, none⟩) hne v6).far (p := ⟨g, 7, none⟩) hne v7).far (p := ⟨g, 8, none⟩) hne v8)
end
/-- task t lies in block b from o on -/
def TaskAt (w : World) (b o : Nat) (t : Tsk) (r : Value) : Prop :=
  Ints w r t.regs ∧ w.cell? ⟨b, o, none⟩ = some (.string t.name) ∧ w.cell? ⟨b, o + 1, none⟩ = some (.int .i64 t.T) ∧ w.cell? ⟨b, o + 2, none⟩ = some (.int .i64 t.D) ∧ w.cell? ⟨b, o + 3, none⟩ = some (.int .i64 t.mode) ∧
    w.cell? ⟨b, o + 4, none⟩ = some (.int .i64 t.q) ∧ w.cell? ⟨b, o + 5, none⟩ = some (.int .i64 t.theta) ∧ w.cell? ⟨b, o + 6, none⟩ = some r ∧ w.cell? ⟨b, o + 7, none⟩ = some (.int .u64 t.ecb) ∧ w.cell? ⟨b, o + 8, none⟩ = some (.int .u64 t.ucb)
theorem TaskAt.ext {w w' : World} {b o : Nat} {t : Tsk} {r : Value} (h : TaskAt w b o t r) (hx : Ext w w') : TaskAt w' b o t r := by
  obtain ⟨h0, h1, h2, h3, h4, h5, h6, h7, h8, h9⟩ := h
  exact ⟨h0.ext hx, hx.cell h1, hx.cell h2, hx.cell h3, hx.cell h4, hx.cell h5, hx.cell h6, hx.cell h7, hx.cell h8, hx.cell h9⟩
theorem TaskAt.row {w : World} {b o : Nat} {t : Tsk} {r : Value} (h : TaskAt w b o t r) : ∃ A c, r = .slice A t.regs.length c := by
  obtain ⟨⟨A, c, e, _⟩, _⟩ := h
  exact ⟨A, c, e⟩
/-- v reads as the tasks ts -/
def Tasks (w : World) (v : Value) (ts : List Tsk) : Prop :=
  ∃ A c, v = .slice A ts.length c ∧ ts.length ≤ c ∧ c ≤ maxLen ∧ (ts ≠ [] → ∃ b o, A = some ⟨b, o, none⟩ ∧ ∀ i (h : i < ts.length), ∃ r, TaskAt w b (o + i * 9) ts[i] r)
theorem Tasks.ext {w w' : World} {v : Value} {ts : List Tsk} (h : Tasks w v ts) (hx : Ext w w') : Tasks w' v ts := by
  obtain ⟨A, c, rfl, h1, h2, h3⟩ := h
  refine ⟨A, c, rfl, h1, h2, fun hne => ?_⟩
  obtain ⟨b, o, e, h4⟩ := h3 hne
  exact ⟨b, o, e, fun i hi => (h4 i hi).imp fun r hr => hr.ext hx⟩
theorem Tasks.at {w : World} {A : Option Addr} {n c : Nat} {ts : List Tsk} (h : Tasks w (.slice A n c) ts) {k : Nat} (hk : k < ts.length) : ∃ b o r, A = some ⟨b, o, none⟩ ∧ TaskAt w b (o + k * 9) ts[k] r := by
  obtain ⟨A', c', e1, _, _, h3⟩ := h
  obtain ⟨rfl, _, rfl⟩ := Value.slice.inj e1
  obtain ⟨b, o, e, hx⟩ := h3 (fun e => by rw [e] at hk; simp at hk)
  obtain ⟨r, hr⟩ := hx k hk
  exact ⟨b, o, r, e, hr⟩
/-- the facts on one task, for whatever world has them still -/
theorem TaskAt.under {w : World} {b o : Nat} {t : Tsk} {r : Value} (h : TaskAt w b o t r) :
    (∀ w', Ext w w' → w'.cell? ⟨b, o, none⟩ = some (.string t.name)) ∧ (∀ w', Ext w w' → w'.cell? ⟨b, o + 1, none⟩ = some (.int .i64 t.T)) ∧ (∀ w', Ext w w' → w'.cell? ⟨b, o + 2, none⟩ = some (.int .i64 t.D)) ∧
    (∀ w', Ext w w' → w'.cell? ⟨b, o + 3, none⟩ = some (.int .i64 t.mode)) ∧ (∀ w', Ext w w' → w'.cell? ⟨b, o + 4, none⟩ = some (.int .i64 t.q)) ∧ (∀ w', Ext w w' → w'.cell? ⟨b, o + 5, none⟩ = some (.int .i64 t.theta)) ∧
    (∀ w', Ext w w' → w'.cell? ⟨b, o + 6, none⟩ = some r) ∧ (∀ w', Ext w w' → w'.cell? ⟨b, o + 7, none⟩ = some (.int .u64 t.ecb)) ∧ (∀ w', Ext w w' → w'.cell? ⟨b, o + 8, none⟩ = some (.int .u64 t.ucb)) := by
  obtain ⟨_, h1, h2, h3, h4, h5, h6, h7, h8, h9⟩ := h
  exact ⟨fun _ x => x.cell h1, fun _ x => x.cell h2, fun _ x => x.cell h3, fun _ x => x.cell h4, fun _ x => x.cell h5, fun _ x => x.cell h6, fun _ x => x.cell h7, fun _ x => x.cell h8, fun _ x => x.cell h9⟩
def sameB (a b : Tsk) : Bool := a.name.data == b.name.data && a.T == b.T && a.D == b.D && a.mode == b.mode && a.q == b.q && a.theta == b.theta && a.ecb == b.ecb && a.ucb == b.ucb && decide (a.regs = b.regs)
theorem sameB_iff {a b : Tsk} : sameB a b = true ↔ a = b := by
  constructor
  · intro h
    simp only [sameB, Bool.and_eq_true, beq_iff_eq, decide_eq_true_eq] at h
    obtain ⟨⟨⟨⟨⟨⟨⟨⟨h1, h2⟩, h3⟩, h4⟩, h5⟩, h6⟩, h7⟩, h8⟩, h9⟩ := h
    obtain ⟨⟨n⟩, _, _, _, _, _, _, _, _⟩ := a
    obtain ⟨⟨n'⟩, _, _, _, _, _, _, _, _⟩ := b
    simp_all
  · rintro rfl
    simp [sameB]
instance tskEq : DecidableEq Tsk := fun _ _ => decidable_of_iff _ sameB_iff
theorem sameB_eq (a b : Tsk) : sameB a b = decide (a = b) := by
  rw [Bool.eq_iff_iff, sameB_iff, decide_eq_true_eq]
theorem diffB_eq (a b : Tsk) : ((!(a.name.data == b.name.data)) || a.T != b.T || a.D != b.D || a.mode != b.mode || a.q != b.q || a.theta != b.theta || a.ecb != b.ecb || a.ucb != b.ucb || !decide (a.regs = b.regs)) = !decide (a = b) := by
  rw [← sameB_eq, sameB]
  simp only [Bool.not_and, bne]
/-- a set -/
structure TSet where
  reload : Int
  tasks : List Tsk
theorem TSet.ext' {a b : TSet} (h1 : a.reload = b.reload) (h2 : a.tasks = b.tasks) : a = b := by cases a; cases b; simp_all
instance setEq : DecidableEq TSet := fun a b => decidable_of_iff (a.reload = b.reload ∧ a.tasks = b.tasks) ⟨fun h => TSet.ext' h.1 h.2, fun h => by rw [h]; exact ⟨rfl, rfl⟩⟩
theorem setEq_dec (s u : TSet) : (s.reload == u.reload && decide (s.tasks = u.tasks)) = decide (s = u) := by
  rw [Bool.eq_iff_iff]
  simp only [Bool.and_eq_true, beq_iff_eq, decide_eq_true_eq]
  exact ⟨fun h => TSet.ext' h.1 h.2, fun h => by rw [h]; exact ⟨rfl, rfl⟩⟩
def setV (s : TSet) (v : Value) : Value := .agg #[.int .i64 s.reload, v]
/-- texts and numbers as they may be -/
def TSet.good (s : TSet) : Prop := ∀ t ∈ s.tasks, t.name.size ≤ maxLen
theorem Tasks.len {w : World} {v : Value} {ts : List Tsk} (h : Tasks w v ts) : ts.length ≤ 9223372036854775807 := by
  obtain ⟨_, c, _, h1, h2, _⟩ := h
  unfold maxLen at h2
  omega
end Go.Proofs.YtniejidekflmiaaGreatDoor
