/- timer: New, Left, Add, Drop. -/
import Derived.Test.YtenamokjbbiecaaProg
import Derived.Test.YtenamokjbbiecaaBase
import Derived.Test.YtenamokjbbiecaaHeldX
import Derived.Test.YtenamokjbbiecaaApp
import Derived.Test.YtenamokjbbiecaaExt0
import Derived.Test.YtenamokjbbiecaaMapR
import Derived.Test.YtenamokjbbiecaaMapF
import Derived.Deep.Cut
import Derived.Lib.Hide
import Derived.OwnWalk
namespace Go.Proofs.Ytenamokjbbiecaa
open Go.RowKit
attribute [local go_sem] setCell_twice ByteArray.toList_eq str_list Ext.alloc Ext.drew
set_option linter.unusedSimpArgs false
set_option maxRecDepth 100000
set_option maxHeartbeats 6400000
attribute [local irreducible] Calls

theorem mapTy : MapTy Try.prog 72 3 2 := ⟨fun _ => by kernel_rfl, Try.underlying72, Try.underlying3, Try.underlying2⟩
/-- a timer at block tb, its map at block bm, of at most n ids -/
def TmAt (w : World) (tb bm n : Nat) (f : Int → Option Int) : Prop := Blk w tb #[.map (some bm)] 84 ∧ MapF Try.prog 3 2 w bm n f
theorem TmAt.ext {w w' : World} {tb bm n : Nat} {f : Int → Option Int} (h : TmAt w tb bm n f) (hx : Ext w w') : TmAt w' tb bm n f := ⟨h.1.ext hx, h.2.ext hx⟩
theorem TmAt.ne {w : World} {tb bm n : Nat} {f : Int → Option Int} (h : TmAt w tb bm n f) : tb ≠ bm := by
  obtain ⟨h1, D, ⟨es, clock, hb, _⟩, _⟩ := h
  rintro rfl
  unfold Blk at h1
  rw [h1] at hb
  cases hb
theorem new_any (w : World) : Calls Try.prog 18 #[] w fun e w' => ∃ tb bm, e = .returned (.pointer (some ⟨tb, 0, none⟩)) ∧ TmAt w' tb bm 0 (fun _ => none) ∧ w.heap.size ≤ tb ∧ w.heap.size ≤ bm ∧ Ext w w' := by
  have hmm := @run_makeMap Try.prog
  go_enter Try.func18, Try.ntmps18
  go_wp2_with (fail)
  go_ret
  refine ⟨_, _, rfl, ⟨Blk.new_at _ _ _ _ (by simp), (MapF.made _ _ _ w).ext ((Ext.refl _).alloc _)⟩, ?_, Nat.le_refl _, ((Ext.refl w).alloc _).alloc _⟩
  simp
theorem left_any (tb bm n : Nat) (f : Int → Option Int) (id : Int) (w : World) (h : TmAt w tb bm n f) (hw : (Lit.int .i64 id).wf = true) :
    Calls Try.prog 26 #[.pointer (some ⟨tb, 0, none⟩), .int .i64 id] w fun e w' => e = .returned (.tuple #[.int .i64 ((f id).getD 0), .bool (f id).isSome]) ∧ w = w' := by
  have hc := h.1.cell
  go_enter Try.func26, Try.ntmps26
  go_wp2_with (at_lookup; refine wpF_look mapTy rfl _ _ rfl rfl h.2 id hw rfl ?_)
  exact bodyPost_ret (v := .tuple #[.int .i64 ((f id).getD 0), .bool (f id).isSome]) (by simp [results, Try.results26, go_sem, *]) rfl ⟨rfl, rfl⟩
/-- may it be added? -/
def addB (f : Int → Option Int) (id after : Int) : Bool := (decide (0 ≤ after) && decide (after ≤ 1099511627776)) && !(f id).isSome
def addF (f : Int → Option Int) (id after : Int) : Int → Option Int := if addB f id after = true then upd f id (some after) else f
theorem add_any (tb bm n : Nat) (f : Int → Option Int) (id after : Int) (w : World) (h : TmAt w tb bm n f) (hn : n < 100000) (hw : (Lit.int .i64 id).wf = true) (hwa : (Lit.int .i64 after).wf = true) :
    Calls Try.prog 19 #[.pointer (some ⟨tb, 0, none⟩), .int .i64 id, .int .i64 after] w fun e w' => e = .returned (.bool (addB f id after)) ∧ TmAt w' tb bm (n + 1) (addF f id after) ∧ w.grownBy w' (some bm) := by
  have hc := h.1.cell
  have hb : addB f id after = ((decide (0 ≤ after) && decide (after ≤ 1099511627776)) && !(f id).isSome) := rfl
  have hf0 : addB f id after = false → TmAt w tb bm (n + 1) (addF f id after) := fun e => by
    unfold addF
    rw [e]
    exact ⟨h.1, h.2.mono (Nat.le_succ n)⟩
  have H0 := Lib.hid hf0
  have HT := Lib.hid (show addB f id after = true → addF f id after = upd f id (some after) from fun e => by unfold addF; rw [if_pos e])
  clear hf0
  have hl := h.2
  go_enter Try.func19, Try.ntmps19
  by_cases h1 : after < 0
  · have hz : addB f id after = false := by rw [hb, decide_eq_false (by omega)]; rfl
    have HZ := Lib.hid hz
    clear hz hb
    go_wp2_with (fail)
    go_ret
    exact ⟨by rw [HZ.out]; rfl, H0.out HZ.out, World.grownBy.refl w _⟩
  · by_cases h2 : 1099511627776 < after
    · have hz : addB f id after = false := by rw [hb, decide_eq_false (show ¬ after ≤ 1099511627776 by omega), Bool.and_false]; rfl
      have HZ := Lib.hid hz
      clear hz hb
      go_wp2_with (fail)
      go_ret
      exact ⟨by rw [HZ.out]; rfl, H0.out HZ.out, World.grownBy.refl w _⟩
    · rw [decide_eq_true (by omega), decide_eq_true (by omega)] at hb
      have HB := Lib.hid hb
      clear hb
      cases hs : f id with
      | some m =>
        have hz : addB f id after = false := by rw [HB.out, hs]; rfl
        have HZ := Lib.hid hz
        clear hz
        go_wp2_with (at_lookup; refine wpF_look mapTy rfl _ _ rfl rfl hl id hw rfl ?_; rw [hs]; simp only [Option.isSome_some])
        go_ret
        exact ⟨by rw [HZ.out]; rfl, H0.out HZ.out, World.grownBy.refl w _⟩
      | none =>
        have hz : addB f id after = true := by rw [HB.out, hs]; rfl
        have HZ := Lib.hid hz
        clear hz
        go_wp2_with (first | (at_lookup; refine wpF_look mapTy rfl _ _ rfl rfl hl id hw rfl ?_; rw [hs]; simp only [Option.isSome_none]) | (at_mapUpdate; refine wpF_store mapTy rfl _ _ _ rfl rfl hl (by unfold maxLen; omega) id after hw rfl hwa rfl ?_; intro w1 hm1 hg1))
        go_ret
        exact ⟨by rw [HZ.out]; rfl, ⟨h.1.grown hg1 (fun e => h.ne (Option.some.inj e).symm), by rw [HT.out HZ.out]; exact hm1⟩, hg1⟩
theorem upd_none {f : Int → Option Int} {id : Int} (h : f id = none) : upd f id none = f := by
  funext x
  unfold upd
  split
  · rename_i e; rw [e, h]
  · rfl
theorem drop_any (tb bm n : Nat) (f : Int → Option Int) (id : Int) (w : World) (h : TmAt w tb bm n f) (hw : (Lit.int .i64 id).wf = true) :
    Calls Try.prog 21 #[.pointer (some ⟨tb, 0, none⟩), .int .i64 id] w fun e w' => e = .returned (.bool (f id).isSome) ∧ TmAt w' tb bm n (upd f id none) ∧ w.grownBy w' (some bm) := by
  have hc := h.1.cell
  have hl := h.2
  have hL := left_any tb bm n f id w h hw
  go_enter Try.func21, Try.ntmps21
  cases hs : f id with
  | none =>
    rw [hs] at hL
    have HS := Lib.hid hs
    clear hs
    go_wp2_with (fail)
    refine hL.mono ?_
    rintro e w1 ⟨rfl, rfl⟩
    go_wp2_with (fail)
    go_ret
    exact ⟨rfl, by rw [upd_none HS.out]; exact h, World.grownBy.refl w _⟩
  | some m =>
    rw [hs] at hL
    clear hs
    go_wp2_with (fail)
    refine hL.mono ?_
    rintro e w1 ⟨rfl, rfl⟩
    go_wp2_with (at_delete; refine wpF_del mapTy rfl _ _ rfl rfl hl id hw rfl ?_; intro w1 hm1 hg1)
    go_ret
    exact ⟨rfl, ⟨h.1.grown hg1 (fun e => h.ne (Option.some.inj e).symm), hm1⟩, hg1⟩
end Go.Proofs.Ytenamokjbbiecaa
