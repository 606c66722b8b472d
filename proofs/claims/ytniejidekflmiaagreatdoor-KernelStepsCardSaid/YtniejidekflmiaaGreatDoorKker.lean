/- The kernel: one event more. -/
import Derived.Test.YtniejidekflmiaaGreatDoorProg
import Derived.Test.YtniejidekflmiaaGreatDoorBase
import Derived.Test.YtniejidekflmiaaGreatDoorHeldX
import Derived.Test.YtniejidekflmiaaGreatDoorHeldN
import Derived.Test.YtniejidekflmiaaGreatDoorApp
import Derived.Test.YtniejidekflmiaaGreatDoorExt0
import Derived.Test.YtniejidekflmiaaGreatDoorChg
import Derived.Test.YtniejidekflmiaaGreatDoorRowB
import Derived.Test.YtniejidekflmiaaGreatDoorKM
import Derived.Test.YtniejidekflmiaaGreatDoorKP1
import Derived.Test.YtniejidekflmiaaGreatDoorOpenI
import Derived.Test.YtniejidekflmiaaGreatDoorKpol
import Derived.Deep.Cut
import Derived.Lib.Hide
import Derived.OwnWalk
import Derived.Maps.AppendAt
import Derived.BigQuiet
namespace Go.Proofs.YtniejidekflmiaaGreatDoor
open Go.RowKit
attribute [local go_sem] setCell_twice Ext.alloc Ext.drew
set_option linter.unusedSimpArgs false
set_option maxRecDepth 100000
set_option maxHeartbeats 400000
attribute [local irreducible] Calls

def encEv (e : Ev) : List Value := [.int .i64 e.tick, .int .i64 e.kind, .int .i64 e.task, .int .i64 e.n]
theorem encEv_len (e : Ev) : (encEv e).length = 4 := rfl
theorem infoEv : (Tryz.prog.info? 43).map (fun i => (i.zero, i.size, i.bytes)) = some (some (.agg #[.int .i64 0, .int .i64 0, .int .i64 0, .int .i64 0]), 4, 32) := by kernel_rfl
theorem encEv_one (e : Ev) : ∀ u ∈ encEv e, u.oneCell' = true := by
  intro u hu
  simp only [encEv, List.mem_cons, List.not_mem_nil, or_false] at hu
  rcases hu with rfl | rfl | rfl | rfl <;> rfl
/-- the kernel's own block -/
def KBox (gk : Nat) (cs : Array Value) (w : World) : Prop := Blk w gk cs 90
theorem KBox.ext {gk : Nat} {cs : Array Value} {w w' : World} (h : KBox gk cs w) (hx : Ext w w') : KBox gk cs w' := Blk.ext h hx
theorem notes_ker (B gk : Nat) (c0 c1 c3 c4 c5 c6 c7 ev : Value) (tick kind task n : Int) (evs : List Ev) (w : World) (hB : Blk w gk #[c0, c1, .int .i64 tick, c3, c4, c5, c6, c7, ev] 90) (hO : OwnL encEv w B 43 4 ev evs) (hl : evs.length ≤ 1000) (hBw : B ≤ w.heap.size) :
    Calls Tryz.prog 40 #[.pointer (some ⟨gk, 0, none⟩), .int .i64 kind, .int .i64 task, .int .i64 n] w fun e w' => e = .returned (.tuple #[]) ∧
      (∃ ev', Blk w' gk #[c0, c1, .int .i64 tick, c3, c4, c5, c6, c7, ev'] 90 ∧ OwnL encEv w' B 43 4 ev' (evs ++ [⟨tick, kind, task, n⟩]) ∧ ∀ q, ev'.ownBlock = some q → ev.ownBlock = some q ∨ w.heap.size ≤ q) ∧ Chg (fun q => q = gk ∨ ev.ownBlock = some q) w w' := by
  obtain ⟨A, c, rfl, hcc, hcm⟩ := OwnL.form hO
  have hc : ∀ w', KBox gk #[c0, c1, .int .i64 tick, c3, c4, c5, c6, c7, .slice A evs.length c] w' → ∀ j, w'.cell? ⟨gk, j, none⟩ = #[c0, c1, .int .i64 tick, c3, c4, c5, c6, c7, .slice A evs.length c][j]? := fun w' h => Blk.cell h
  have hK0 : KBox gk #[c0, c1, .int .i64 tick, c3, c4, c5, c6, c7, .slice A evs.length c] w := hB
  go_enter Tryz.func40, Tryz.ntmps40
  go_upto_region 0 with (fail)
  refine wp_region_mixZ (T := [13, 14, 17]) (z := 17) (S := KBox gk #[c0, c1, .int .i64 tick, c3, c4, c5, c6, c7, .slice A evs.length c]) (W := w) (fun _ _ h hx => h.ext hx) (by kernel_rfl) (by kernel_rfl) (by kernel_rfl) (Ext.refl w).drew hK0 (fun _ _ h => h) (fun K hK => ?_)
  (repeat (first | (refine hX_skip ?_ ?_; (· rfl)) | (apply hX_and; (· rfl); (· rfl); (· rfl); (· rfl); (· rfl); simp only [Act.put, List.setIfInBounds_toArray, List.set_cons_zero, List.set_cons_succ]) | (apply hX_or; (· rfl); (· rfl); (· rfl); (· rfl); (· rfl); simp only [Act.put, List.setIfInBounds_toArray, List.set_cons_zero, List.set_cons_succ]) | (apply hX_off; (· rfl); (· rfl); (· rfl); simp only [Act.put, List.setIfInBounds_toArray, List.set_cons_zero, List.set_cons_succ]) | (apply hX_val; (· rfl); (· intro w hS; go_simp; with_reducible rfl); (· rfl); simp only [Act.put, List.setIfInBounds_toArray, List.set_cons_zero, List.set_cons_succ]) | (apply hX_call; (· rfl); (· rfl); (· intro w hS; go_simp; exact ⟨rfl, rfl⟩); (· intro w hS; fail); simp only [Act.put, List.setIfInBounds_toArray, List.set_cons_zero, List.set_cons_succ]) | (apply hX_if; (· rfl); (· rfl); (· rfl); (· intro hif w hS; go_simp; with_reducible rfl); simp only [Act.put, List.setIfInBounds_toArray, List.set_cons_zero, List.set_cons_succ]) | (apply hX_ifcall; (· rfl); (· rfl); (· rfl); (· intro hif w hS; go_simp; exact ⟨rfl, rfl⟩); (· intro hif w hS; fail); simp only [Act.put, List.setIfInBounds_toArray, List.set_cons_zero, List.set_cons_succ]))); refine hX_nil ?_
  refine hK _ ?_
  clear hK K
  refine wpZ_want (i := 13) (by kernel_rfl) rfl (by simp [Region.wanted, yielded]) ?_
  intro w1 hx1 K hK
  go_simp
  have hE1 := hx1.alloc (.cells #[.int .i64 tick, .int .i64 kind, .int .i64 task, .int .i64 n] 43)
  have hN1 := Blk.new w1 #[.int .i64 tick, .int .i64 kind, .int .i64 task, .int .i64 n] 43
  refine hK _ _ (hK0.ext hE1) ?_
  clear hK K hx1
  generalize w1.heap.size = g1 at hN1 ⊢
  generalize w1.alloc _ = W1 at hN1 hE1 ⊢
  refine wpZ_want (i := 14) (by kernel_rfl) rfl (by simp [Region.wanted, yielded]) ?_
  intro w2 hx2 K hK
  refine wp_push _ _ 28 rfl B 43 Tryz.underlying28 infoEv rfl (by decide) (by decide) encEv evs _ rfl (OwnL.below hO (hE1.trans hx2).below) ⟨tick, kind, task, n⟩ g1 #[.int .i64 tick, .int .i64 kind, .int .i64 task, .int .i64 n] 43 rfl (hN1.ext hx2) rfl rfl (encEv_one _) (by omega) (by have := (hE1.trans hx2).size; omega) ?_
  intro v3 w3 hown3 hg3 hloc3 _
  have hE2 := hE1.trans hx2
  have hO2 := OwnL.below hO hE2.below
  have hB3 : Blk w3 gk #[c0, c1, .int .i64 tick, c3, c4, c5, c6, c7, .slice A evs.length c] 90 := (hB.ext hE2).grown hg3 (own_ne_blk hO2 (hB.ext hE2) (by decide))
  have hC3 : Chg (fun q => q = gk ∨ (Value.slice A evs.length c).ownBlock = some q) w w3 := (Chg.of_ext hE2).grown hg3 (fun k e _ => .inr e)
  obtain ⟨A3, c3', rfl⟩ := own_slice hown3
  have hL3 : ∀ q, (Value.slice A3 (evs.length + 1) c3').ownBlock = some q → (Value.slice A evs.length c).ownBlock = some q ∨ w.heap.size ≤ q := fun q hq => by
    rw [List.length_append, List.length_singleton] at hloc3
    rcases hloc3 with h | h
    · exact .inl (h.symm.trans hq)
    · rw [h] at hq
      have h1 := Option.some.inj hq
      have h2 := hE2.size
      exact .inr (by omega)
  refine hK _ _ hB3 ?_
  clear hK K hx2 hN1 hE1 hE2 hO2 hg3 hloc3
  refine wpZ_last (by kernel_rfl) rfl (by simp [Region.wanted, yielded]) ?_
  intro w4 hx4 K hK
  have hB4 := hB3.ext hx4
  have hc4 := hB4.cell
  have hf4 := hB4.free
  go_simp
  have hB5 := hB4.set 8 (.slice A3 (evs.length + 1) c3')
  simp only [List.setIfInBounds_toArray, List.set_cons_zero, List.set_cons_succ] at hB5
  have hown4 := OwnL.below hown3 hx4.below
  have hO5 := OwnL.set hown4 (a := ⟨gk, 8, none⟩) (own_ne_blk hown4 hB4 (by decide)) (.slice A3 (evs.length + 1) c3')
  rw [List.length_append, List.length_singleton] at hO5
  have hC5 := (hC3.ext hx4).set (g := gk) (i := 8) (.inl (.inl rfl)) (.slice A3 (evs.length + 1) c3')
  refine hK _ _ ?_
  clear hK K hB4 hc4 hf4 hown4 hown3 hx4 hB3 hC3
  generalize w4.setCell _ _ = W5 at hB5 hO5 hC5 ⊢
  refine wpZ_done (by kernel_rfl) (fun W hX => ?_) _
  have hB6 := hB5.ext hX
  have hO6 := OwnL.below hO5 hX.below
  have hC6 := hC5.ext hX
  clear hB5 hO5 hC5 hX
  go_wp2_with (fail)
  refine bodyPost_end (v := .tuple #[]) (results_none Tryz.results40 _ _ _) rfl ⟨rfl, ⟨_, hB6, hO6, hL3⟩, hC6⟩
end Go.Proofs.YtniejidekflmiaaGreatDoor
