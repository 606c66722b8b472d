/- law 25: two tasks, by hand. -/
import Derived.Test.YtniejidekflmiaaDoorProg
import Derived.Test.YtniejidekflmiaaDoorBase
import Derived.Test.YtniejidekflmiaaDoorHeldX
import Derived.Test.YtniejidekflmiaaDoorHeldN
import Derived.Test.YtniejidekflmiaaDoorApp
import Derived.Test.YtniejidekflmiaaDoorExt0
import Derived.Test.YtniejidekflmiaaDoorChg
import Derived.Test.YtniejidekflmiaaDoorRowB
import Derived.Test.YtniejidekflmiaaDoorKM
import Derived.Test.YtniejidekflmiaaDoorKP1
import Derived.Test.YtniejidekflmiaaDoorKO
import Derived.Test.YtniejidekflmiaaDoorKC
import Derived.Test.YtniejidekflmiaaDoorOpenI
import Derived.Test.YtniejidekflmiaaDoorKker
import Derived.Test.YtniejidekflmiaaDoorTskZ
import Derived.Test.YtniejidekflmiaaDoorTskA
import Derived.Test.YtniejidekflmiaaDoorSetO
import Derived.Test.YtniejidekflmiaaDoorKch
import Derived.Test.YtniejidekflmiaaDoorEvO
import Derived.Test.YtniejidekflmiaaDoorKrn
import Derived.Test.YtniejidekflmiaaDoorL25r
import Derived.Test.YtniejidekflmiaaDoorL25w
import Derived.Deep.Cut
import Derived.Lib.Hide
import Derived.OwnWalk
import Derived.Maps.AppendAt
import Derived.BigQuiet
namespace Go.Proofs.YtniejidekflmiaaDoor
open Go.RowKit
attribute [local go_sem] setCell_twice ByteArray.toList_eq str_list Ext.alloc Ext.drew
set_option linter.unusedSimpArgs false
set_option linter.unusedVariables false
set_option maxRecDepth 100000
set_option maxHeartbeats 1600000
attribute [local irreducible] Calls

theorem kSw_fit {m q th : Int} (hm : 0 ≤ m ∧ m ≤ 2) (hq : 0 ≤ q ∧ q ≤ 1) (ht : 0 ≤ th ∧ th ≤ 1) : (kSw m q th).fit := by
  have hi : ∀ x : Int, 0 ≤ x ∧ x ≤ 2 → (Lit.int .i64 x).wf = true := fun x h => by
    show (decide ((-9223372036854775808 : Int) ≤ x) && decide (x ≤ 9223372036854775807)) = true
    rw [decide_eq_true (by omega), decide_eq_true (by omega)]
    rfl
  refine ⟨rfl, by show 2 * 96 ≤ _; omega, fun t ht2 => ?_⟩
  have ht3 : t = kTa ∨ t = kTb m q th := by simpa [kSw] using ht2
  rcases ht3 with rfl | rfl
  · refine ⟨by show 1 ≤ _; omega, by show 1 * 8 ≤ _; omega, rfl, rfl, rfl, rfl, rfl, rfl, rfl, fun n hn => ?_⟩
    obtain rfl : n = 1 := by simpa [kTa] using hn
    rfl
  · refine ⟨by show 1 ≤ _; omega, by show 2 * 8 ≤ _; omega, rfl, rfl, hi m hm, hi q (by omega), hi th (by omega), rfl, rfl, fun n hn => ?_⟩
    rcases (show n = 3 ∨ n = 2 by simpa [kTb] using hn) with rfl | rfl <;> rfl
theorem kSw0 : allB (kSw 0 0 0) = true := by decide +kernel
theorem kSw1 : allB (kSw 1 1 0) = true := by decide +kernel
theorem kSw2 : allB (kSw 2 0 1) = true := by decide +kernel
theorem kSw3 : allB (kSw 2 0 0) = true := by decide +kernel
theorem run_kw {m q th : Int} (hf : (kSw m q th).fit) (ha : allB (kSw m q th) = true) {E : List Ev} (hE : eventsK (kSw m q th) kIw = E) (v vl : Value) (W : World) (hv : Tasks W v (kSw m q th).tasks) (hl : SlR InpR 3 Any W vl kIw) (h : G25 W) :
    Calls Tryd.prog 14 #[.agg #[.int .i64 1, v], vl] W fun e w' => ∃ vo, e = .returned (.tuple #[vo, .bool true]) ∧ OwnL encEv w' W.heap.size 41 4 vo E ∧ Ext W w' := by
  have := runs25_any (kSw m q th) v vl kIw W hv hf.good h.gok ha (kh_of ha hf) hl (fun x hx => by
    simp only [kIw, List.mem_cons, List.not_mem_nil, or_false] at hx
    rcases hx with rfl | rfl | rfl | rfl | rfl | rfl | rfl | rfl <;> refine ⟨by decide, by decide, fun y hy z hz => ?_⟩
    · rcases (show y = [] ∨ y = [3, 2] by simpa using hy) with rfl | rfl
      · cases hz
      · rcases (show z = 3 ∨ z = 2 by simpa using hz) with rfl | rfl <;> rfl
    all_goals cases hy) (by decide) h.db
  rw [hE] at this
  exact this
theorem inps_kw {W : World} {g4 g5 g6 : Nat} {t4 t5 t6 : TypeId} (hM : Blk W g4 #[.int .i64 3, .int .i64 2] t4) (hD : Blk W g5 #[.slice none 0 0, .slice (some ⟨g4, 0, none⟩) 2 2] t5) (hP : Blk W g6 #[.int .u64 2, .slice (some ⟨g5, 0, none⟩) 2 2, .int .u64 7, .int .u64 1, .slice none 0 0, .int .u64 7, .int .u64 0, .slice none 0 0, .int .u64 7, .int .u64 0, .slice none 0 0, .int .u64 7, .int .u64 0, .slice none 0 0, .int .u64 7, .int .u64 0, .slice none 0 0, .int .u64 7, .int .u64 0, .slice none 0 0, .int .u64 7, .int .u64 0, .slice none 0 0, .int .u64 7] t6) : SlR InpR 3 Any W (.slice (some ⟨g6, 0, none⟩) 8 8) kIw := by
  have hds : SlR DemR 1 Any W (.slice (some ⟨g5, 0, none⟩) 2 2) [[], [3, 2]] := dems_blk (ds := [[], [3, 2]]) (vs := [.slice none 0 0, .slice (some ⟨g4, 0, none⟩) 2 2]) hD rfl (by decide) (fun i h1 h2 => by
    have hi : i = 0 ∨ i = 1 := by simp at h1; omega
    rcases hi with rfl | rfl
    · exact ints_none W
    · exact ints_two' hM)
  exact inps_blk (ps := [(.slice (some ⟨g5, 0, none⟩) 2 2, ⟨2, [[], [3, 2]], 7⟩), (.slice none 0 0, ⟨1, [], 7⟩), (.slice none 0 0, ⟨0, [], 7⟩), (.slice none 0 0, ⟨0, [], 7⟩), (.slice none 0 0, ⟨0, [], 7⟩), (.slice none 0 0, ⟨0, [], 7⟩), (.slice none 0 0, ⟨0, [], 7⟩), (.slice none 0 0, ⟨0, [], 7⟩)]) hP (by simp) (fun p hp => by
    simp only [List.mem_cons, List.not_mem_nil, or_false] at hp
    rcases hp with rfl | rfl | rfl | rfl | rfl | rfl | rfl | rfl
    · exact hds
    all_goals exact dems_none W)
theorem kernelKnown_walk (n : Int) (w : World) (hn : (Lit.int .i64 n).wf = true) (hG : G25 w) :
    Calls Tryd.prog 5 #[.int .i64 n] w fun e w' => e = .returned (.bool true) ∧ Below w.heap.size w w' := by
  have HKN := Lib.hid fun w' (hx : Ext w w') => known25_any w' (hG.ext hx)
  have hGW := fun W (h : Ext w W) => hG.ext h
  have HG := Lib.hid hGW
  clear hGW hG hn
  go_enter Tryd.func5, Tryd.ntmps5
  go_upto_region 5 with (fail)
  generalize hW : World.alloc _ (.cells _ 41) = W
  have hX : Ext w W := by rw [← hW]; exact ((((((((Ext.refl w).alloc _).alloc _).alloc _).alloc _).alloc _).alloc _).alloc _).alloc _
  have hI : Blk W (w.heap.size) #[.int .i64 1] 2 := by rw [← hW]; exact (((((((Blk.new _ _ _).alloc _).alloc _).alloc _).alloc _).alloc _).alloc _).alloc _
  have hA : Blk W (w.heap.size + 1) #[.string bA, .int .i64 9, .int .i64 9, .int .i64 0, .int .i64 0, .int .i64 0, .slice (some ⟨w.heap.size, 0, none⟩) 1 1, .int .u64 6, .int .u64 0] 45 := by rw [← hW]; exact ((((((Blk.new_at _ _ _ _ (by simp)).alloc _).alloc _).alloc _).alloc _).alloc _).alloc _
  have hJ : Blk W (w.heap.size + 1 + 1) #[.int .i64 3, .int .i64 2] 2 := by rw [← hW]; exact (((((Blk.new_at _ _ _ _ (by simp)).alloc _).alloc _).alloc _).alloc _).alloc _
  have hB : Blk W (w.heap.size + 1 + 1 + 1) #[.string bB, .int .i64 20, .int .i64 20, .int .i64 0, .int .i64 0, .int .i64 0, .slice (some ⟨w.heap.size + 1 + 1, 0, none⟩) 2 2, .int .u64 7, .int .u64 3] 45 := by rw [← hW]; exact ((((Blk.new_at _ _ _ _ (by simp)).alloc _).alloc _).alloc _).alloc _
  have hM : Blk W (w.heap.size + 1 + 1 + 1 + 1) #[.int .i64 3, .int .i64 2] 2 := by rw [← hW]; exact (((Blk.new_at _ _ _ _ (by simp)).alloc _).alloc _).alloc _
  have hD : Blk W (w.heap.size + 1 + 1 + 1 + 1 + 1) #[.slice none 0 0, .slice (some ⟨w.heap.size + 1 + 1 + 1 + 1, 0, none⟩) 2 2] 42 := by rw [← hW]; exact ((Blk.new_at _ _ _ _ (by simp)).alloc _).alloc _
  have hP : Blk W (w.heap.size + 1 + 1 + 1 + 1 + 1 + 1) #[.int .u64 2, .slice (some ⟨w.heap.size + 1 + 1 + 1 + 1 + 1, 0, none⟩) 2 2, .int .u64 7, .int .u64 1, .slice none 0 0, .int .u64 7, .int .u64 0, .slice none 0 0, .int .u64 7, .int .u64 0, .slice none 0 0, .int .u64 7, .int .u64 0, .slice none 0 0, .int .u64 7, .int .u64 0, .slice none 0 0, .int .u64 7, .int .u64 0, .slice none 0 0, .int .u64 7, .int .u64 0, .slice none 0 0, .int .u64 7] 48 := by rw [← hW]; exact (Blk.new_at _ _ _ _ (by simp)).alloc _
  have hE : Blk W (w.heap.size + 1 + 1 + 1 + 1 + 1 + 1 + 1) #[.int .i64 0, .int .i64 1, .int .i64 1, .int .i64 0, .int .i64 0, .int .i64 4, .int .i64 1, .int .i64 0, .int .i64 1, .int .i64 1, .int .i64 0, .int .i64 0] 41 := by rw [← hW]; exact Blk.new_at _ _ _ _ (by simp)
  have hO0 : OwnL encEv W w.heap.size 41 4 (.slice (some ⟨w.heap.size + 1 + 1 + 1 + 1 + 1 + 1 + 1, 0, none⟩) 3 3) [⟨0, 1, 1, 0⟩, ⟨0, 4, 1, 0⟩, ⟨1, 1, 0, 0⟩] := own_lit (xs := [⟨0, 1, 1, 0⟩, ⟨0, 4, 1, 0⟩, ⟨1, 1, 0, 0⟩]) encEv_len hE (by omega) rfl (by decide)
  clear hW hE
  have hgrow : ∀ {w1 w2 : World} {v : Value} {L : List Ev}, Ext W w1 → OwnL encEv w1 w.heap.size 41 4 v L → w1.grownBy w2 v.ownBlock → True := fun _ _ _ => trivial
  clear hgrow
  have hlow : w.heap.size ≤ W.heap.size := hX.size
  by_cases n0 : n = 0
  · subst n0
    have hA1 := hA.cell
    have hB1 := hB.cell
    go_wp2_with (at_builtin; (refine wpList_app_ev rfl _ _ rfl w.heap.size ([⟨0, 1, 1, 0⟩, ⟨0, 4, 1, 0⟩, ⟨1, 1, 0, 0⟩]) [⟨2, 7, 1, 0⟩, ⟨3, 5, 1, 0⟩, ⟨3, 4, 0, 0⟩, ⟨3, 7, 0, 0⟩, ⟨3, 8, 0, 3⟩, ⟨4, 6, 1, 1⟩, ⟨6, 7, 1, 1⟩, ⟨6, 8, 1, 7⟩, ⟨7, 10, -1, 0⟩] _ rfl (OwnL.alloc hO0 _) _ 9 rfl rfl (Blk.new _ _ _) (by decide) ?_ ?_; (· rw [size_alloc]; omega); (intro v1 w1 hO1 hg1 hl1; have hA2 := (hA.alloc (.cells #[.int .i64 2, .int .i64 7, .int .i64 1, .int .i64 0, .int .i64 3, .int .i64 5, .int .i64 1, .int .i64 0, .int .i64 3, .int .i64 4, .int .i64 0, .int .i64 0, .int .i64 3, .int .i64 7, .int .i64 0, .int .i64 0, .int .i64 3, .int .i64 8, .int .i64 0, .int .i64 3, .int .i64 4, .int .i64 6, .int .i64 1, .int .i64 1, .int .i64 6, .int .i64 7, .int .i64 1, .int .i64 1, .int .i64 6, .int .i64 8, .int .i64 1, .int .i64 7, .int .i64 7, .int .i64 10, .int .i64 (-1), .int .i64 0] 41)).grown hg1 (own_ne_blk hO0 hA (by decide)); have hB2 := (hB.alloc (.cells #[.int .i64 2, .int .i64 7, .int .i64 1, .int .i64 0, .int .i64 3, .int .i64 5, .int .i64 1, .int .i64 0, .int .i64 3, .int .i64 4, .int .i64 0, .int .i64 0, .int .i64 3, .int .i64 7, .int .i64 0, .int .i64 0, .int .i64 3, .int .i64 8, .int .i64 0, .int .i64 3, .int .i64 4, .int .i64 6, .int .i64 1, .int .i64 1, .int .i64 6, .int .i64 7, .int .i64 1, .int .i64 1, .int .i64 6, .int .i64 8, .int .i64 1, .int .i64 7, .int .i64 7, .int .i64 10, .int .i64 (-1), .int .i64 0] 41)).grown hg1 (own_ne_blk hO0 hB (by decide)); have hA3 := hA2.cell; have hB3 := hB2.cell; clear hA1 hB1)))
    have hX1 := (hX.alloc (.cells #[.int .i64 2, .int .i64 7, .int .i64 1, .int .i64 0, .int .i64 3, .int .i64 5, .int .i64 1, .int .i64 0, .int .i64 3, .int .i64 4, .int .i64 0, .int .i64 0, .int .i64 3, .int .i64 7, .int .i64 0, .int .i64 0, .int .i64 3, .int .i64 8, .int .i64 0, .int .i64 3, .int .i64 4, .int .i64 6, .int .i64 1, .int .i64 1, .int .i64 6, .int .i64 7, .int .i64 1, .int .i64 1, .int .i64 6, .int .i64 8, .int .i64 1, .int .i64 7, .int .i64 7, .int .i64 10, .int .i64 (-1), .int .i64 0] 41)).grown hg1 (fun q hq => (OwnL.lt hO0 q hq).1)
    have hI2 := (hI.alloc (.cells #[.int .i64 2, .int .i64 7, .int .i64 1, .int .i64 0, .int .i64 3, .int .i64 5, .int .i64 1, .int .i64 0, .int .i64 3, .int .i64 4, .int .i64 0, .int .i64 0, .int .i64 3, .int .i64 7, .int .i64 0, .int .i64 0, .int .i64 3, .int .i64 8, .int .i64 0, .int .i64 3, .int .i64 4, .int .i64 6, .int .i64 1, .int .i64 1, .int .i64 6, .int .i64 7, .int .i64 1, .int .i64 1, .int .i64 6, .int .i64 8, .int .i64 1, .int .i64 7, .int .i64 7, .int .i64 10, .int .i64 (-1), .int .i64 0] 41)).grown hg1 (own_ne_blk hO0 hI (by decide))
    have hJ2 := (hJ.alloc (.cells #[.int .i64 2, .int .i64 7, .int .i64 1, .int .i64 0, .int .i64 3, .int .i64 5, .int .i64 1, .int .i64 0, .int .i64 3, .int .i64 4, .int .i64 0, .int .i64 0, .int .i64 3, .int .i64 7, .int .i64 0, .int .i64 0, .int .i64 3, .int .i64 8, .int .i64 0, .int .i64 3, .int .i64 4, .int .i64 6, .int .i64 1, .int .i64 1, .int .i64 6, .int .i64 7, .int .i64 1, .int .i64 1, .int .i64 6, .int .i64 8, .int .i64 1, .int .i64 7, .int .i64 7, .int .i64 10, .int .i64 (-1), .int .i64 0] 41)).grown hg1 (own_ne_blk hO0 hJ (by decide))
    have hM2 := (hM.alloc (.cells #[.int .i64 2, .int .i64 7, .int .i64 1, .int .i64 0, .int .i64 3, .int .i64 5, .int .i64 1, .int .i64 0, .int .i64 3, .int .i64 4, .int .i64 0, .int .i64 0, .int .i64 3, .int .i64 7, .int .i64 0, .int .i64 0, .int .i64 3, .int .i64 8, .int .i64 0, .int .i64 3, .int .i64 4, .int .i64 6, .int .i64 1, .int .i64 1, .int .i64 6, .int .i64 7, .int .i64 1, .int .i64 1, .int .i64 6, .int .i64 8, .int .i64 1, .int .i64 7, .int .i64 7, .int .i64 10, .int .i64 (-1), .int .i64 0] 41)).grown hg1 (own_ne_blk hO0 hM (by decide))
    have hD2 := (hD.alloc (.cells #[.int .i64 2, .int .i64 7, .int .i64 1, .int .i64 0, .int .i64 3, .int .i64 5, .int .i64 1, .int .i64 0, .int .i64 3, .int .i64 4, .int .i64 0, .int .i64 0, .int .i64 3, .int .i64 7, .int .i64 0, .int .i64 0, .int .i64 3, .int .i64 8, .int .i64 0, .int .i64 3, .int .i64 4, .int .i64 6, .int .i64 1, .int .i64 1, .int .i64 6, .int .i64 7, .int .i64 1, .int .i64 1, .int .i64 6, .int .i64 8, .int .i64 1, .int .i64 7, .int .i64 7, .int .i64 10, .int .i64 (-1), .int .i64 0] 41)).grown hg1 (own_ne_blk hO0 hD (by decide))
    have hP2 := (hP.alloc (.cells #[.int .i64 2, .int .i64 7, .int .i64 1, .int .i64 0, .int .i64 3, .int .i64 5, .int .i64 1, .int .i64 0, .int .i64 3, .int .i64 4, .int .i64 0, .int .i64 0, .int .i64 3, .int .i64 7, .int .i64 0, .int .i64 0, .int .i64 3, .int .i64 8, .int .i64 0, .int .i64 3, .int .i64 4, .int .i64 6, .int .i64 1, .int .i64 1, .int .i64 6, .int .i64 7, .int .i64 1, .int .i64 1, .int .i64 6, .int .i64 8, .int .i64 1, .int .i64 7, .int .i64 7, .int .i64 10, .int .i64 (-1), .int .i64 0] 41)).grown hg1 (own_ne_blk hO0 hP (by decide))
    have hl1 := inps_kw hM2 hD2 hP2
    have hEv := hX1.alloc (.cells #[.string bA, .int .i64 9, .int .i64 9, .int .i64 0, .int .i64 0, .int .i64 0, .slice (some ⟨w.heap.size, 0, none⟩) 1 1, .int .u64 6, .int .u64 0, .string bB, .int .i64 20, .int .i64 20, .int .i64 0, .int .i64 0, .int .i64 0, .slice (some ⟨w.heap.size + 1 + 1, 0, none⟩) 2 2, .int .u64 7, .int .u64 3] 45)
    have hE0 := (Ext.refl w1).alloc (.cells #[.string bA, .int .i64 9, .int .i64 9, .int .i64 0, .int .i64 0, .int .i64 0, .slice (some ⟨w.heap.size, 0, none⟩) 1 1, .int .u64 6, .int .u64 0, .string bB, .int .i64 20, .int .i64 20, .int .i64 0, .int .i64 0, .int .i64 0, .slice (some ⟨w.heap.size + 1 + 1, 0, none⟩) 2 2, .int .u64 7, .int .u64 3] 45)
    have hv : Tasks (w1.alloc (.cells #[.string bA, .int .i64 9, .int .i64 9, .int .i64 0, .int .i64 0, .int .i64 0, .slice (some ⟨w.heap.size, 0, none⟩) 1 1, .int .u64 6, .int .u64 0, .string bB, .int .i64 20, .int .i64 20, .int .i64 0, .int .i64 0, .int .i64 0, .slice (some ⟨w.heap.size + 1 + 1, 0, none⟩) 2 2, .int .u64 7, .int .u64 3] 45)) (.slice (some ⟨w1.heap.size, 0, none⟩) 2 2) (kSw 0 0 0).tasks := tasks_two' (t := kTa) (u := kTb 0 0 0) (Blk.new _ _ _) (ints_one' (hI2.ext hE0)) (ints_two' (hJ2.ext hE0))
    refine (run_kw (kSw_fit (by omega) (by omega) (by omega)) kSw0 kE0_eq _ _ _ hv (SlR.ext hl1 fun _ _ _ h => h.ext hE0) (HG.out _ hEv)).mono ?_
    rintro e w2 ⟨vo, rfl, hO2, hX2⟩
    have hON := OwnL.evs (OwnL.below (OwnL.below hO1 hE0.below) hX2.below)
    obtain ⟨A1, c1, e1', _, _⟩ := OwnL.form hO1
    subst e1'
    obtain ⟨A2, c2, e2', _, _⟩ := OwnL.form hO2
    subst e2'
    have hEO := OwnL.evs hO2
    clear hA3 hB3
    go_wp2_with (fail)
    refine (sameEv_any _ _ kE0 kE0 _ hEO hON).mono ?_
    rintro e w9 ⟨rfl, hX9⟩
    rw [decide_eq_true rfl]
    go_wp2_with (fail)
    refine (HKN.out w9 ((hEv.trans hX2).trans hX9)).mono ?_
    rintro e w10 ⟨rfl, hb10⟩
    go_wp2_with (fail)
    go_ret
    exact ⟨rfl, (((hEv.trans hX2).trans hX9).call hb10).below⟩
  · have e0 : (n == 0) = false := by rw [beq_eq_false_iff_ne]; exact n0
    by_cases n1 : n = 1
    · subst n1
      have hA1 := hA.cell
      have hf := hB.free
      have hB0 := hB.cell
      go_upto_region 11 with (fail)
      have hB2 := ((hB.set 3 (.int .i64 1)).set 4 (.int .i64 1))
      simp only [List.setIfInBounds_toArray, List.set_cons_zero, List.set_cons_succ] at hB2
      have hO0 := OwnL.set hO0 (a := ⟨w.heap.size + 1 + 1 + 1, 3, none⟩) (fun e => by have h2 := Option.some.inj (show some (w.heap.size + 1 + 1 + 1 + 1 + 1 + 1 + 1) = some (w.heap.size + 1 + 1 + 1) from e); omega) (.int .i64 1)
      have hA := hA.far (p := ⟨w.heap.size + 1 + 1 + 1, 3, none⟩) (show w.heap.size + 1 ≠ w.heap.size + 1 + 1 + 1 by omega) (.int .i64 1)
      have hI := hI.far (p := ⟨w.heap.size + 1 + 1 + 1, 3, none⟩) (show w.heap.size ≠ w.heap.size + 1 + 1 + 1 by omega) (.int .i64 1)
      have hJ := hJ.far (p := ⟨w.heap.size + 1 + 1 + 1, 3, none⟩) (show w.heap.size + 1 + 1 ≠ w.heap.size + 1 + 1 + 1 by omega) (.int .i64 1)
      have hM := hM.far (p := ⟨w.heap.size + 1 + 1 + 1, 3, none⟩) (show w.heap.size + 1 + 1 + 1 + 1 ≠ w.heap.size + 1 + 1 + 1 by omega) (.int .i64 1)
      have hD := hD.far (p := ⟨w.heap.size + 1 + 1 + 1, 3, none⟩) (show w.heap.size + 1 + 1 + 1 + 1 + 1 ≠ w.heap.size + 1 + 1 + 1 by omega) (.int .i64 1)
      have hP := hP.far (p := ⟨w.heap.size + 1 + 1 + 1, 3, none⟩) (show w.heap.size + 1 + 1 + 1 + 1 + 1 + 1 ≠ w.heap.size + 1 + 1 + 1 by omega) (.int .i64 1)
      have hO0 := OwnL.set hO0 (a := ⟨w.heap.size + 1 + 1 + 1, 4, none⟩) (fun e => by have h2 := Option.some.inj (show some (w.heap.size + 1 + 1 + 1 + 1 + 1 + 1 + 1) = some (w.heap.size + 1 + 1 + 1) from e); omega) (.int .i64 1)
      have hA := hA.far (p := ⟨w.heap.size + 1 + 1 + 1, 4, none⟩) (show w.heap.size + 1 ≠ w.heap.size + 1 + 1 + 1 by omega) (.int .i64 1)
      have hI := hI.far (p := ⟨w.heap.size + 1 + 1 + 1, 4, none⟩) (show w.heap.size ≠ w.heap.size + 1 + 1 + 1 by omega) (.int .i64 1)
      have hJ := hJ.far (p := ⟨w.heap.size + 1 + 1 + 1, 4, none⟩) (show w.heap.size + 1 + 1 ≠ w.heap.size + 1 + 1 + 1 by omega) (.int .i64 1)
      have hM := hM.far (p := ⟨w.heap.size + 1 + 1 + 1, 4, none⟩) (show w.heap.size + 1 + 1 + 1 + 1 ≠ w.heap.size + 1 + 1 + 1 by omega) (.int .i64 1)
      have hD := hD.far (p := ⟨w.heap.size + 1 + 1 + 1, 4, none⟩) (show w.heap.size + 1 + 1 + 1 + 1 + 1 ≠ w.heap.size + 1 + 1 + 1 by omega) (.int .i64 1)
      have hP := hP.far (p := ⟨w.heap.size + 1 + 1 + 1, 4, none⟩) (show w.heap.size + 1 + 1 + 1 + 1 + 1 + 1 ≠ w.heap.size + 1 + 1 + 1 by omega) (.int .i64 1)
      have hX := (hX.set (g := w.heap.size + 1 + 1 + 1) (i := 3) (by omega) (.int .i64 1)).set (g := w.heap.size + 1 + 1 + 1) (i := 4) (by omega) (.int .i64 1)
      clear hA1 hf hB0 hB
      have hB := hB2
      clear hB2 hlow
      generalize World.setCell _ _ _ = W at hO0 hA hI hJ hM hD hP hB hX ⊢
      have hlow : w.heap.size ≤ W.heap.size := hX.size
      have hA1 := hA.cell
      have hB1 := hB.cell
      go_wp2_with (at_builtin; (refine wpList_app_ev rfl _ _ rfl w.heap.size ([⟨0, 1, 1, 0⟩, ⟨0, 4, 1, 0⟩, ⟨1, 1, 0, 0⟩]) [⟨2, 5, 1, 0⟩, ⟨2, 4, 0, 0⟩, ⟨2, 7, 0, 0⟩, ⟨2, 8, 0, 2⟩, ⟨3, 6, 1, 1⟩, ⟨4, 7, 1, 0⟩, ⟨6, 7, 1, 1⟩, ⟨6, 8, 1, 7⟩, ⟨7, 10, -1, 0⟩] _ rfl (OwnL.alloc hO0 _) _ 9 rfl rfl (Blk.new _ _ _) (by decide) ?_ ?_; (· rw [size_alloc]; omega); (intro v1 w1 hO1 hg1 hl1; have hA2 := (hA.alloc (.cells #[.int .i64 2, .int .i64 5, .int .i64 1, .int .i64 0, .int .i64 2, .int .i64 4, .int .i64 0, .int .i64 0, .int .i64 2, .int .i64 7, .int .i64 0, .int .i64 0, .int .i64 2, .int .i64 8, .int .i64 0, .int .i64 2, .int .i64 3, .int .i64 6, .int .i64 1, .int .i64 1, .int .i64 4, .int .i64 7, .int .i64 1, .int .i64 0, .int .i64 6, .int .i64 7, .int .i64 1, .int .i64 1, .int .i64 6, .int .i64 8, .int .i64 1, .int .i64 7, .int .i64 7, .int .i64 10, .int .i64 (-1), .int .i64 0] 41)).grown hg1 (own_ne_blk hO0 hA (by decide)); have hB2 := (hB.alloc (.cells #[.int .i64 2, .int .i64 5, .int .i64 1, .int .i64 0, .int .i64 2, .int .i64 4, .int .i64 0, .int .i64 0, .int .i64 2, .int .i64 7, .int .i64 0, .int .i64 0, .int .i64 2, .int .i64 8, .int .i64 0, .int .i64 2, .int .i64 3, .int .i64 6, .int .i64 1, .int .i64 1, .int .i64 4, .int .i64 7, .int .i64 1, .int .i64 0, .int .i64 6, .int .i64 7, .int .i64 1, .int .i64 1, .int .i64 6, .int .i64 8, .int .i64 1, .int .i64 7, .int .i64 7, .int .i64 10, .int .i64 (-1), .int .i64 0] 41)).grown hg1 (own_ne_blk hO0 hB (by decide)); have hA3 := hA2.cell; have hB3 := hB2.cell; clear hA1 hB1)))
      have hX1 := (hX.alloc (.cells #[.int .i64 2, .int .i64 5, .int .i64 1, .int .i64 0, .int .i64 2, .int .i64 4, .int .i64 0, .int .i64 0, .int .i64 2, .int .i64 7, .int .i64 0, .int .i64 0, .int .i64 2, .int .i64 8, .int .i64 0, .int .i64 2, .int .i64 3, .int .i64 6, .int .i64 1, .int .i64 1, .int .i64 4, .int .i64 7, .int .i64 1, .int .i64 0, .int .i64 6, .int .i64 7, .int .i64 1, .int .i64 1, .int .i64 6, .int .i64 8, .int .i64 1, .int .i64 7, .int .i64 7, .int .i64 10, .int .i64 (-1), .int .i64 0] 41)).grown hg1 (fun q hq => (OwnL.lt hO0 q hq).1)
      have hI2 := (hI.alloc (.cells #[.int .i64 2, .int .i64 5, .int .i64 1, .int .i64 0, .int .i64 2, .int .i64 4, .int .i64 0, .int .i64 0, .int .i64 2, .int .i64 7, .int .i64 0, .int .i64 0, .int .i64 2, .int .i64 8, .int .i64 0, .int .i64 2, .int .i64 3, .int .i64 6, .int .i64 1, .int .i64 1, .int .i64 4, .int .i64 7, .int .i64 1, .int .i64 0, .int .i64 6, .int .i64 7, .int .i64 1, .int .i64 1, .int .i64 6, .int .i64 8, .int .i64 1, .int .i64 7, .int .i64 7, .int .i64 10, .int .i64 (-1), .int .i64 0] 41)).grown hg1 (own_ne_blk hO0 hI (by decide))
      have hJ2 := (hJ.alloc (.cells #[.int .i64 2, .int .i64 5, .int .i64 1, .int .i64 0, .int .i64 2, .int .i64 4, .int .i64 0, .int .i64 0, .int .i64 2, .int .i64 7, .int .i64 0, .int .i64 0, .int .i64 2, .int .i64 8, .int .i64 0, .int .i64 2, .int .i64 3, .int .i64 6, .int .i64 1, .int .i64 1, .int .i64 4, .int .i64 7, .int .i64 1, .int .i64 0, .int .i64 6, .int .i64 7, .int .i64 1, .int .i64 1, .int .i64 6, .int .i64 8, .int .i64 1, .int .i64 7, .int .i64 7, .int .i64 10, .int .i64 (-1), .int .i64 0] 41)).grown hg1 (own_ne_blk hO0 hJ (by decide))
      have hM2 := (hM.alloc (.cells #[.int .i64 2, .int .i64 5, .int .i64 1, .int .i64 0, .int .i64 2, .int .i64 4, .int .i64 0, .int .i64 0, .int .i64 2, .int .i64 7, .int .i64 0, .int .i64 0, .int .i64 2, .int .i64 8, .int .i64 0, .int .i64 2, .int .i64 3, .int .i64 6, .int .i64 1, .int .i64 1, .int .i64 4, .int .i64 7, .int .i64 1, .int .i64 0, .int .i64 6, .int .i64 7, .int .i64 1, .int .i64 1, .int .i64 6, .int .i64 8, .int .i64 1, .int .i64 7, .int .i64 7, .int .i64 10, .int .i64 (-1), .int .i64 0] 41)).grown hg1 (own_ne_blk hO0 hM (by decide))
      have hD2 := (hD.alloc (.cells #[.int .i64 2, .int .i64 5, .int .i64 1, .int .i64 0, .int .i64 2, .int .i64 4, .int .i64 0, .int .i64 0, .int .i64 2, .int .i64 7, .int .i64 0, .int .i64 0, .int .i64 2, .int .i64 8, .int .i64 0, .int .i64 2, .int .i64 3, .int .i64 6, .int .i64 1, .int .i64 1, .int .i64 4, .int .i64 7, .int .i64 1, .int .i64 0, .int .i64 6, .int .i64 7, .int .i64 1, .int .i64 1, .int .i64 6, .int .i64 8, .int .i64 1, .int .i64 7, .int .i64 7, .int .i64 10, .int .i64 (-1), .int .i64 0] 41)).grown hg1 (own_ne_blk hO0 hD (by decide))
      have hP2 := (hP.alloc (.cells #[.int .i64 2, .int .i64 5, .int .i64 1, .int .i64 0, .int .i64 2, .int .i64 4, .int .i64 0, .int .i64 0, .int .i64 2, .int .i64 7, .int .i64 0, .int .i64 0, .int .i64 2, .int .i64 8, .int .i64 0, .int .i64 2, .int .i64 3, .int .i64 6, .int .i64 1, .int .i64 1, .int .i64 4, .int .i64 7, .int .i64 1, .int .i64 0, .int .i64 6, .int .i64 7, .int .i64 1, .int .i64 1, .int .i64 6, .int .i64 8, .int .i64 1, .int .i64 7, .int .i64 7, .int .i64 10, .int .i64 (-1), .int .i64 0] 41)).grown hg1 (own_ne_blk hO0 hP (by decide))
      have hl1 := inps_kw hM2 hD2 hP2
      have hEv := hX1.alloc (.cells #[.string bA, .int .i64 9, .int .i64 9, .int .i64 0, .int .i64 0, .int .i64 0, .slice (some ⟨w.heap.size, 0, none⟩) 1 1, .int .u64 6, .int .u64 0, .string bB, .int .i64 20, .int .i64 20, .int .i64 1, .int .i64 1, .int .i64 0, .slice (some ⟨w.heap.size + 1 + 1, 0, none⟩) 2 2, .int .u64 7, .int .u64 3] 45)
      have hE0 := (Ext.refl w1).alloc (.cells #[.string bA, .int .i64 9, .int .i64 9, .int .i64 0, .int .i64 0, .int .i64 0, .slice (some ⟨w.heap.size, 0, none⟩) 1 1, .int .u64 6, .int .u64 0, .string bB, .int .i64 20, .int .i64 20, .int .i64 1, .int .i64 1, .int .i64 0, .slice (some ⟨w.heap.size + 1 + 1, 0, none⟩) 2 2, .int .u64 7, .int .u64 3] 45)
      have hv : Tasks (w1.alloc (.cells #[.string bA, .int .i64 9, .int .i64 9, .int .i64 0, .int .i64 0, .int .i64 0, .slice (some ⟨w.heap.size, 0, none⟩) 1 1, .int .u64 6, .int .u64 0, .string bB, .int .i64 20, .int .i64 20, .int .i64 1, .int .i64 1, .int .i64 0, .slice (some ⟨w.heap.size + 1 + 1, 0, none⟩) 2 2, .int .u64 7, .int .u64 3] 45)) (.slice (some ⟨w1.heap.size, 0, none⟩) 2 2) (kSw 1 1 0).tasks := tasks_two' (t := kTa) (u := kTb 1 1 0) (Blk.new _ _ _) (ints_one' (hI2.ext hE0)) (ints_two' (hJ2.ext hE0))
      refine (run_kw (kSw_fit (by omega) (by omega) (by omega)) kSw1 kE1_eq _ _ _ hv (SlR.ext hl1 fun _ _ _ h => h.ext hE0) (HG.out _ hEv)).mono ?_
      rintro e w2 ⟨vo, rfl, hO2, hX2⟩
      have hON := OwnL.evs (OwnL.below (OwnL.below hO1 hE0.below) hX2.below)
      obtain ⟨A1, c1, e1', _, _⟩ := OwnL.form hO1
      subst e1'
      obtain ⟨A2, c2, e2', _, _⟩ := OwnL.form hO2
      subst e2'
      have hEO := OwnL.evs hO2
      clear hA3 hB3
      go_wp2_with (fail)
      refine (sameEv_any _ _ kE1 kE1 _ hEO hON).mono ?_
      rintro e w9 ⟨rfl, hX9⟩
      rw [decide_eq_true rfl]
      go_wp2_with (fail)
      refine (HKN.out w9 ((hEv.trans hX2).trans hX9)).mono ?_
      rintro e w10 ⟨rfl, hb10⟩
      go_wp2_with (fail)
      go_ret
      exact ⟨rfl, (((hEv.trans hX2).trans hX9).call hb10).below⟩
    · have e1 : (n == 1) = false := by rw [beq_eq_false_iff_ne]; exact n1
      by_cases n2 : n = 2
      · subst n2
        have hA1 := hA.cell
        have hf := hB.free
        have hB0 := hB.cell
        go_upto_region 14 with (fail)
        have hB2 := ((hB.set 3 (.int .i64 2)).set 5 (.int .i64 1))
        simp only [List.setIfInBounds_toArray, List.set_cons_zero, List.set_cons_succ] at hB2
        have hO0 := OwnL.set hO0 (a := ⟨w.heap.size + 1 + 1 + 1, 3, none⟩) (fun e => by have h2 := Option.some.inj (show some (w.heap.size + 1 + 1 + 1 + 1 + 1 + 1 + 1) = some (w.heap.size + 1 + 1 + 1) from e); omega) (.int .i64 2)
        have hA := hA.far (p := ⟨w.heap.size + 1 + 1 + 1, 3, none⟩) (show w.heap.size + 1 ≠ w.heap.size + 1 + 1 + 1 by omega) (.int .i64 2)
        have hI := hI.far (p := ⟨w.heap.size + 1 + 1 + 1, 3, none⟩) (show w.heap.size ≠ w.heap.size + 1 + 1 + 1 by omega) (.int .i64 2)
        have hJ := hJ.far (p := ⟨w.heap.size + 1 + 1 + 1, 3, none⟩) (show w.heap.size + 1 + 1 ≠ w.heap.size + 1 + 1 + 1 by omega) (.int .i64 2)
        have hM := hM.far (p := ⟨w.heap.size + 1 + 1 + 1, 3, none⟩) (show w.heap.size + 1 + 1 + 1 + 1 ≠ w.heap.size + 1 + 1 + 1 by omega) (.int .i64 2)
        have hD := hD.far (p := ⟨w.heap.size + 1 + 1 + 1, 3, none⟩) (show w.heap.size + 1 + 1 + 1 + 1 + 1 ≠ w.heap.size + 1 + 1 + 1 by omega) (.int .i64 2)
        have hP := hP.far (p := ⟨w.heap.size + 1 + 1 + 1, 3, none⟩) (show w.heap.size + 1 + 1 + 1 + 1 + 1 + 1 ≠ w.heap.size + 1 + 1 + 1 by omega) (.int .i64 2)
        have hO0 := OwnL.set hO0 (a := ⟨w.heap.size + 1 + 1 + 1, 5, none⟩) (fun e => by have h2 := Option.some.inj (show some (w.heap.size + 1 + 1 + 1 + 1 + 1 + 1 + 1) = some (w.heap.size + 1 + 1 + 1) from e); omega) (.int .i64 1)
        have hA := hA.far (p := ⟨w.heap.size + 1 + 1 + 1, 5, none⟩) (show w.heap.size + 1 ≠ w.heap.size + 1 + 1 + 1 by omega) (.int .i64 1)
        have hI := hI.far (p := ⟨w.heap.size + 1 + 1 + 1, 5, none⟩) (show w.heap.size ≠ w.heap.size + 1 + 1 + 1 by omega) (.int .i64 1)
        have hJ := hJ.far (p := ⟨w.heap.size + 1 + 1 + 1, 5, none⟩) (show w.heap.size + 1 + 1 ≠ w.heap.size + 1 + 1 + 1 by omega) (.int .i64 1)
        have hM := hM.far (p := ⟨w.heap.size + 1 + 1 + 1, 5, none⟩) (show w.heap.size + 1 + 1 + 1 + 1 ≠ w.heap.size + 1 + 1 + 1 by omega) (.int .i64 1)
        have hD := hD.far (p := ⟨w.heap.size + 1 + 1 + 1, 5, none⟩) (show w.heap.size + 1 + 1 + 1 + 1 + 1 ≠ w.heap.size + 1 + 1 + 1 by omega) (.int .i64 1)
        have hP := hP.far (p := ⟨w.heap.size + 1 + 1 + 1, 5, none⟩) (show w.heap.size + 1 + 1 + 1 + 1 + 1 + 1 ≠ w.heap.size + 1 + 1 + 1 by omega) (.int .i64 1)
        have hX := (hX.set (g := w.heap.size + 1 + 1 + 1) (i := 3) (by omega) (.int .i64 2)).set (g := w.heap.size + 1 + 1 + 1) (i := 5) (by omega) (.int .i64 1)
        clear hA1 hf hB0 hB
        have hB := hB2
        clear hB2 hlow
        generalize World.setCell _ _ _ = W at hO0 hA hI hJ hM hD hP hB hX ⊢
        have hlow : w.heap.size ≤ W.heap.size := hX.size
        have hA1 := hA.cell
        have hB1 := hB.cell
        go_wp2_with (at_builtin; (refine wpList_app_ev rfl _ _ rfl w.heap.size ([⟨0, 1, 1, 0⟩, ⟨0, 4, 1, 0⟩, ⟨1, 1, 0, 0⟩]) [⟨1, 5, 1, 0⟩, ⟨1, 4, 0, 0⟩, ⟨1, 7, 0, 0⟩, ⟨1, 8, 0, 1⟩, ⟨2, 6, 1, 1⟩, ⟨4, 7, 1, 0⟩, ⟨6, 7, 1, 1⟩, ⟨6, 8, 1, 7⟩, ⟨7, 10, -1, 0⟩] _ rfl (OwnL.alloc hO0 _) _ 9 rfl rfl (Blk.new _ _ _) (by decide) ?_ ?_; (· rw [size_alloc]; omega); (intro v1 w1 hO1 hg1 hl1; have hA2 := (hA.alloc (.cells #[.int .i64 1, .int .i64 5, .int .i64 1, .int .i64 0, .int .i64 1, .int .i64 4, .int .i64 0, .int .i64 0, .int .i64 1, .int .i64 7, .int .i64 0, .int .i64 0, .int .i64 1, .int .i64 8, .int .i64 0, .int .i64 1, .int .i64 2, .int .i64 6, .int .i64 1, .int .i64 1, .int .i64 4, .int .i64 7, .int .i64 1, .int .i64 0, .int .i64 6, .int .i64 7, .int .i64 1, .int .i64 1, .int .i64 6, .int .i64 8, .int .i64 1, .int .i64 7, .int .i64 7, .int .i64 10, .int .i64 (-1), .int .i64 0] 41)).grown hg1 (own_ne_blk hO0 hA (by decide)); have hB2 := (hB.alloc (.cells #[.int .i64 1, .int .i64 5, .int .i64 1, .int .i64 0, .int .i64 1, .int .i64 4, .int .i64 0, .int .i64 0, .int .i64 1, .int .i64 7, .int .i64 0, .int .i64 0, .int .i64 1, .int .i64 8, .int .i64 0, .int .i64 1, .int .i64 2, .int .i64 6, .int .i64 1, .int .i64 1, .int .i64 4, .int .i64 7, .int .i64 1, .int .i64 0, .int .i64 6, .int .i64 7, .int .i64 1, .int .i64 1, .int .i64 6, .int .i64 8, .int .i64 1, .int .i64 7, .int .i64 7, .int .i64 10, .int .i64 (-1), .int .i64 0] 41)).grown hg1 (own_ne_blk hO0 hB (by decide)); have hA3 := hA2.cell; have hB3 := hB2.cell; clear hA1 hB1)))
        have hX1 := (hX.alloc (.cells #[.int .i64 1, .int .i64 5, .int .i64 1, .int .i64 0, .int .i64 1, .int .i64 4, .int .i64 0, .int .i64 0, .int .i64 1, .int .i64 7, .int .i64 0, .int .i64 0, .int .i64 1, .int .i64 8, .int .i64 0, .int .i64 1, .int .i64 2, .int .i64 6, .int .i64 1, .int .i64 1, .int .i64 4, .int .i64 7, .int .i64 1, .int .i64 0, .int .i64 6, .int .i64 7, .int .i64 1, .int .i64 1, .int .i64 6, .int .i64 8, .int .i64 1, .int .i64 7, .int .i64 7, .int .i64 10, .int .i64 (-1), .int .i64 0] 41)).grown hg1 (fun q hq => (OwnL.lt hO0 q hq).1)
        have hI2 := (hI.alloc (.cells #[.int .i64 1, .int .i64 5, .int .i64 1, .int .i64 0, .int .i64 1, .int .i64 4, .int .i64 0, .int .i64 0, .int .i64 1, .int .i64 7, .int .i64 0, .int .i64 0, .int .i64 1, .int .i64 8, .int .i64 0, .int .i64 1, .int .i64 2, .int .i64 6, .int .i64 1, .int .i64 1, .int .i64 4, .int .i64 7, .int .i64 1, .int .i64 0, .int .i64 6, .int .i64 7, .int .i64 1, .int .i64 1, .int .i64 6, .int .i64 8, .int .i64 1, .int .i64 7, .int .i64 7, .int .i64 10, .int .i64 (-1), .int .i64 0] 41)).grown hg1 (own_ne_blk hO0 hI (by decide))
        have hJ2 := (hJ.alloc (.cells #[.int .i64 1, .int .i64 5, .int .i64 1, .int .i64 0, .int .i64 1, .int .i64 4, .int .i64 0, .int .i64 0, .int .i64 1, .int .i64 7, .int .i64 0, .int .i64 0, .int .i64 1, .int .i64 8, .int .i64 0, .int .i64 1, .int .i64 2, .int .i64 6, .int .i64 1, .int .i64 1, .int .i64 4, .int .i64 7, .int .i64 1, .int .i64 0, .int .i64 6, .int .i64 7, .int .i64 1, .int .i64 1, .int .i64 6, .int .i64 8, .int .i64 1, .int .i64 7, .int .i64 7, .int .i64 10, .int .i64 (-1), .int .i64 0] 41)).grown hg1 (own_ne_blk hO0 hJ (by decide))
        have hM2 := (hM.alloc (.cells #[.int .i64 1, .int .i64 5, .int .i64 1, .int .i64 0, .int .i64 1, .int .i64 4, .int .i64 0, .int .i64 0, .int .i64 1, .int .i64 7, .int .i64 0, .int .i64 0, .int .i64 1, .int .i64 8, .int .i64 0, .int .i64 1, .int .i64 2, .int .i64 6, .int .i64 1, .int .i64 1, .int .i64 4, .int .i64 7, .int .i64 1, .int .i64 0, .int .i64 6, .int .i64 7, .int .i64 1, .int .i64 1, .int .i64 6, .int .i64 8, .int .i64 1, .int .i64 7, .int .i64 7, .int .i64 10, .int .i64 (-1), .int .i64 0] 41)).grown hg1 (own_ne_blk hO0 hM (by decide))
        have hD2 := (hD.alloc (.cells #[.int .i64 1, .int .i64 5, .int .i64 1, .int .i64 0, .int .i64 1, .int .i64 4, .int .i64 0, .int .i64 0, .int .i64 1, .int .i64 7, .int .i64 0, .int .i64 0, .int .i64 1, .int .i64 8, .int .i64 0, .int .i64 1, .int .i64 2, .int .i64 6, .int .i64 1, .int .i64 1, .int .i64 4, .int .i64 7, .int .i64 1, .int .i64 0, .int .i64 6, .int .i64 7, .int .i64 1, .int .i64 1, .int .i64 6, .int .i64 8, .int .i64 1, .int .i64 7, .int .i64 7, .int .i64 10, .int .i64 (-1), .int .i64 0] 41)).grown hg1 (own_ne_blk hO0 hD (by decide))
        have hP2 := (hP.alloc (.cells #[.int .i64 1, .int .i64 5, .int .i64 1, .int .i64 0, .int .i64 1, .int .i64 4, .int .i64 0, .int .i64 0, .int .i64 1, .int .i64 7, .int .i64 0, .int .i64 0, .int .i64 1, .int .i64 8, .int .i64 0, .int .i64 1, .int .i64 2, .int .i64 6, .int .i64 1, .int .i64 1, .int .i64 4, .int .i64 7, .int .i64 1, .int .i64 0, .int .i64 6, .int .i64 7, .int .i64 1, .int .i64 1, .int .i64 6, .int .i64 8, .int .i64 1, .int .i64 7, .int .i64 7, .int .i64 10, .int .i64 (-1), .int .i64 0] 41)).grown hg1 (own_ne_blk hO0 hP (by decide))
        have hl1 := inps_kw hM2 hD2 hP2
        have hEv := hX1.alloc (.cells #[.string bA, .int .i64 9, .int .i64 9, .int .i64 0, .int .i64 0, .int .i64 0, .slice (some ⟨w.heap.size, 0, none⟩) 1 1, .int .u64 6, .int .u64 0, .string bB, .int .i64 20, .int .i64 20, .int .i64 2, .int .i64 0, .int .i64 1, .slice (some ⟨w.heap.size + 1 + 1, 0, none⟩) 2 2, .int .u64 7, .int .u64 3] 45)
        have hE0 := (Ext.refl w1).alloc (.cells #[.string bA, .int .i64 9, .int .i64 9, .int .i64 0, .int .i64 0, .int .i64 0, .slice (some ⟨w.heap.size, 0, none⟩) 1 1, .int .u64 6, .int .u64 0, .string bB, .int .i64 20, .int .i64 20, .int .i64 2, .int .i64 0, .int .i64 1, .slice (some ⟨w.heap.size + 1 + 1, 0, none⟩) 2 2, .int .u64 7, .int .u64 3] 45)
        have hv : Tasks (w1.alloc (.cells #[.string bA, .int .i64 9, .int .i64 9, .int .i64 0, .int .i64 0, .int .i64 0, .slice (some ⟨w.heap.size, 0, none⟩) 1 1, .int .u64 6, .int .u64 0, .string bB, .int .i64 20, .int .i64 20, .int .i64 2, .int .i64 0, .int .i64 1, .slice (some ⟨w.heap.size + 1 + 1, 0, none⟩) 2 2, .int .u64 7, .int .u64 3] 45)) (.slice (some ⟨w1.heap.size, 0, none⟩) 2 2) (kSw 2 0 1).tasks := tasks_two' (t := kTa) (u := kTb 2 0 1) (Blk.new _ _ _) (ints_one' (hI2.ext hE0)) (ints_two' (hJ2.ext hE0))
        refine (run_kw (kSw_fit (by omega) (by omega) (by omega)) kSw2 kE2_eq _ _ _ hv (SlR.ext hl1 fun _ _ _ h => h.ext hE0) (HG.out _ hEv)).mono ?_
        rintro e w2 ⟨vo, rfl, hO2, hX2⟩
        have hON := OwnL.evs (OwnL.below (OwnL.below hO1 hE0.below) hX2.below)
        obtain ⟨A1, c1, e1', _, _⟩ := OwnL.form hO1
        subst e1'
        obtain ⟨A2, c2, e2', _, _⟩ := OwnL.form hO2
        subst e2'
        have hEO := OwnL.evs hO2
        clear hA3 hB3
        go_wp2_with (fail)
        refine (sameEv_any _ _ kE2 kE2 _ hEO hON).mono ?_
        rintro e w9 ⟨rfl, hX9⟩
        rw [decide_eq_true rfl]
        go_wp2_with (fail)
        refine (HKN.out w9 ((hEv.trans hX2).trans hX9)).mono ?_
        rintro e w10 ⟨rfl, hb10⟩
        go_wp2_with (fail)
        go_ret
        exact ⟨rfl, (((hEv.trans hX2).trans hX9).call hb10).below⟩
      · have e2 : (n == 2) = false := by rw [beq_eq_false_iff_ne]; exact n2
        by_cases n3 : n = 3
        · subst n3
          have hA1 := hA.cell
          have hf := hB.free
          have hB0 := hB.cell
          go_upto_region 17 with (fail)
          have hB2 := ((hB.set 3 (.int .i64 2)).set 5 (.int .i64 0))
          simp only [List.setIfInBounds_toArray, List.set_cons_zero, List.set_cons_succ] at hB2
          have hO0 := OwnL.set hO0 (a := ⟨w.heap.size + 1 + 1 + 1, 3, none⟩) (fun e => by have h2 := Option.some.inj (show some (w.heap.size + 1 + 1 + 1 + 1 + 1 + 1 + 1) = some (w.heap.size + 1 + 1 + 1) from e); omega) (.int .i64 2)
          have hA := hA.far (p := ⟨w.heap.size + 1 + 1 + 1, 3, none⟩) (show w.heap.size + 1 ≠ w.heap.size + 1 + 1 + 1 by omega) (.int .i64 2)
          have hI := hI.far (p := ⟨w.heap.size + 1 + 1 + 1, 3, none⟩) (show w.heap.size ≠ w.heap.size + 1 + 1 + 1 by omega) (.int .i64 2)
          have hJ := hJ.far (p := ⟨w.heap.size + 1 + 1 + 1, 3, none⟩) (show w.heap.size + 1 + 1 ≠ w.heap.size + 1 + 1 + 1 by omega) (.int .i64 2)
          have hM := hM.far (p := ⟨w.heap.size + 1 + 1 + 1, 3, none⟩) (show w.heap.size + 1 + 1 + 1 + 1 ≠ w.heap.size + 1 + 1 + 1 by omega) (.int .i64 2)
          have hD := hD.far (p := ⟨w.heap.size + 1 + 1 + 1, 3, none⟩) (show w.heap.size + 1 + 1 + 1 + 1 + 1 ≠ w.heap.size + 1 + 1 + 1 by omega) (.int .i64 2)
          have hP := hP.far (p := ⟨w.heap.size + 1 + 1 + 1, 3, none⟩) (show w.heap.size + 1 + 1 + 1 + 1 + 1 + 1 ≠ w.heap.size + 1 + 1 + 1 by omega) (.int .i64 2)
          have hO0 := OwnL.set hO0 (a := ⟨w.heap.size + 1 + 1 + 1, 5, none⟩) (fun e => by have h2 := Option.some.inj (show some (w.heap.size + 1 + 1 + 1 + 1 + 1 + 1 + 1) = some (w.heap.size + 1 + 1 + 1) from e); omega) (.int .i64 0)
          have hA := hA.far (p := ⟨w.heap.size + 1 + 1 + 1, 5, none⟩) (show w.heap.size + 1 ≠ w.heap.size + 1 + 1 + 1 by omega) (.int .i64 0)
          have hI := hI.far (p := ⟨w.heap.size + 1 + 1 + 1, 5, none⟩) (show w.heap.size ≠ w.heap.size + 1 + 1 + 1 by omega) (.int .i64 0)
          have hJ := hJ.far (p := ⟨w.heap.size + 1 + 1 + 1, 5, none⟩) (show w.heap.size + 1 + 1 ≠ w.heap.size + 1 + 1 + 1 by omega) (.int .i64 0)
          have hM := hM.far (p := ⟨w.heap.size + 1 + 1 + 1, 5, none⟩) (show w.heap.size + 1 + 1 + 1 + 1 ≠ w.heap.size + 1 + 1 + 1 by omega) (.int .i64 0)
          have hD := hD.far (p := ⟨w.heap.size + 1 + 1 + 1, 5, none⟩) (show w.heap.size + 1 + 1 + 1 + 1 + 1 ≠ w.heap.size + 1 + 1 + 1 by omega) (.int .i64 0)
          have hP := hP.far (p := ⟨w.heap.size + 1 + 1 + 1, 5, none⟩) (show w.heap.size + 1 + 1 + 1 + 1 + 1 + 1 ≠ w.heap.size + 1 + 1 + 1 by omega) (.int .i64 0)
          have hX := (hX.set (g := w.heap.size + 1 + 1 + 1) (i := 3) (by omega) (.int .i64 2)).set (g := w.heap.size + 1 + 1 + 1) (i := 5) (by omega) (.int .i64 0)
          clear hA1 hf hB0 hB
          have hB := hB2
          clear hB2 hlow
          generalize World.setCell _ _ _ = W at hO0 hA hI hJ hM hD hP hB hX ⊢
          have hlow : w.heap.size ≤ W.heap.size := hX.size
          have hA1 := hA.cell
          have hB1 := hB.cell
          go_wp2_with (at_builtin; (refine wpList_app_ev rfl _ _ rfl w.heap.size ([⟨0, 1, 1, 0⟩, ⟨0, 4, 1, 0⟩, ⟨1, 1, 0, 0⟩]) [⟨2, 7, 1, 0⟩, ⟨4, 7, 1, 1⟩, ⟨4, 8, 1, 5⟩, ⟨5, 4, 0, 0⟩, ⟨5, 7, 0, 0⟩, ⟨5, 8, 0, 5⟩, ⟨6, 10, -1, 0⟩, ⟨7, 10, -1, 0⟩] _ rfl (OwnL.alloc hO0 _) _ 8 rfl rfl (Blk.new _ _ _) (by decide) ?_ ?_; (· rw [size_alloc]; omega); (intro v1 w1 hO1 hg1 hl1; have hA2 := (hA.alloc (.cells #[.int .i64 2, .int .i64 7, .int .i64 1, .int .i64 0, .int .i64 4, .int .i64 7, .int .i64 1, .int .i64 1, .int .i64 4, .int .i64 8, .int .i64 1, .int .i64 5, .int .i64 5, .int .i64 4, .int .i64 0, .int .i64 0, .int .i64 5, .int .i64 7, .int .i64 0, .int .i64 0, .int .i64 5, .int .i64 8, .int .i64 0, .int .i64 5, .int .i64 6, .int .i64 10, .int .i64 (-1), .int .i64 0, .int .i64 7, .int .i64 10, .int .i64 (-1), .int .i64 0] 41)).grown hg1 (own_ne_blk hO0 hA (by decide)); have hB2 := (hB.alloc (.cells #[.int .i64 2, .int .i64 7, .int .i64 1, .int .i64 0, .int .i64 4, .int .i64 7, .int .i64 1, .int .i64 1, .int .i64 4, .int .i64 8, .int .i64 1, .int .i64 5, .int .i64 5, .int .i64 4, .int .i64 0, .int .i64 0, .int .i64 5, .int .i64 7, .int .i64 0, .int .i64 0, .int .i64 5, .int .i64 8, .int .i64 0, .int .i64 5, .int .i64 6, .int .i64 10, .int .i64 (-1), .int .i64 0, .int .i64 7, .int .i64 10, .int .i64 (-1), .int .i64 0] 41)).grown hg1 (own_ne_blk hO0 hB (by decide)); have hA3 := hA2.cell; have hB3 := hB2.cell; clear hA1 hB1)))
          have hX1 := (hX.alloc (.cells #[.int .i64 2, .int .i64 7, .int .i64 1, .int .i64 0, .int .i64 4, .int .i64 7, .int .i64 1, .int .i64 1, .int .i64 4, .int .i64 8, .int .i64 1, .int .i64 5, .int .i64 5, .int .i64 4, .int .i64 0, .int .i64 0, .int .i64 5, .int .i64 7, .int .i64 0, .int .i64 0, .int .i64 5, .int .i64 8, .int .i64 0, .int .i64 5, .int .i64 6, .int .i64 10, .int .i64 (-1), .int .i64 0, .int .i64 7, .int .i64 10, .int .i64 (-1), .int .i64 0] 41)).grown hg1 (fun q hq => (OwnL.lt hO0 q hq).1)
          have hI2 := (hI.alloc (.cells #[.int .i64 2, .int .i64 7, .int .i64 1, .int .i64 0, .int .i64 4, .int .i64 7, .int .i64 1, .int .i64 1, .int .i64 4, .int .i64 8, .int .i64 1, .int .i64 5, .int .i64 5, .int .i64 4, .int .i64 0, .int .i64 0, .int .i64 5, .int .i64 7, .int .i64 0, .int .i64 0, .int .i64 5, .int .i64 8, .int .i64 0, .int .i64 5, .int .i64 6, .int .i64 10, .int .i64 (-1), .int .i64 0, .int .i64 7, .int .i64 10, .int .i64 (-1), .int .i64 0] 41)).grown hg1 (own_ne_blk hO0 hI (by decide))
          have hJ2 := (hJ.alloc (.cells #[.int .i64 2, .int .i64 7, .int .i64 1, .int .i64 0, .int .i64 4, .int .i64 7, .int .i64 1, .int .i64 1, .int .i64 4, .int .i64 8, .int .i64 1, .int .i64 5, .int .i64 5, .int .i64 4, .int .i64 0, .int .i64 0, .int .i64 5, .int .i64 7, .int .i64 0, .int .i64 0, .int .i64 5, .int .i64 8, .int .i64 0, .int .i64 5, .int .i64 6, .int .i64 10, .int .i64 (-1), .int .i64 0, .int .i64 7, .int .i64 10, .int .i64 (-1), .int .i64 0] 41)).grown hg1 (own_ne_blk hO0 hJ (by decide))
          have hM2 := (hM.alloc (.cells #[.int .i64 2, .int .i64 7, .int .i64 1, .int .i64 0, .int .i64 4, .int .i64 7, .int .i64 1, .int .i64 1, .int .i64 4, .int .i64 8, .int .i64 1, .int .i64 5, .int .i64 5, .int .i64 4, .int .i64 0, .int .i64 0, .int .i64 5, .int .i64 7, .int .i64 0, .int .i64 0, .int .i64 5, .int .i64 8, .int .i64 0, .int .i64 5, .int .i64 6, .int .i64 10, .int .i64 (-1), .int .i64 0, .int .i64 7, .int .i64 10, .int .i64 (-1), .int .i64 0] 41)).grown hg1 (own_ne_blk hO0 hM (by decide))
          have hD2 := (hD.alloc (.cells #[.int .i64 2, .int .i64 7, .int .i64 1, .int .i64 0, .int .i64 4, .int .i64 7, .int .i64 1, .int .i64 1, .int .i64 4, .int .i64 8, .int .i64 1, .int .i64 5, .int .i64 5, .int .i64 4, .int .i64 0, .int .i64 0, .int .i64 5, .int .i64 7, .int .i64 0, .int .i64 0, .int .i64 5, .int .i64 8, .int .i64 0, .int .i64 5, .int .i64 6, .int .i64 10, .int .i64 (-1), .int .i64 0, .int .i64 7, .int .i64 10, .int .i64 (-1), .int .i64 0] 41)).grown hg1 (own_ne_blk hO0 hD (by decide))
          have hP2 := (hP.alloc (.cells #[.int .i64 2, .int .i64 7, .int .i64 1, .int .i64 0, .int .i64 4, .int .i64 7, .int .i64 1, .int .i64 1, .int .i64 4, .int .i64 8, .int .i64 1, .int .i64 5, .int .i64 5, .int .i64 4, .int .i64 0, .int .i64 0, .int .i64 5, .int .i64 7, .int .i64 0, .int .i64 0, .int .i64 5, .int .i64 8, .int .i64 0, .int .i64 5, .int .i64 6, .int .i64 10, .int .i64 (-1), .int .i64 0, .int .i64 7, .int .i64 10, .int .i64 (-1), .int .i64 0] 41)).grown hg1 (own_ne_blk hO0 hP (by decide))
          have hl1 := inps_kw hM2 hD2 hP2
          have hEv := hX1.alloc (.cells #[.string bA, .int .i64 9, .int .i64 9, .int .i64 0, .int .i64 0, .int .i64 0, .slice (some ⟨w.heap.size, 0, none⟩) 1 1, .int .u64 6, .int .u64 0, .string bB, .int .i64 20, .int .i64 20, .int .i64 2, .int .i64 0, .int .i64 0, .slice (some ⟨w.heap.size + 1 + 1, 0, none⟩) 2 2, .int .u64 7, .int .u64 3] 45)
          have hE0 := (Ext.refl w1).alloc (.cells #[.string bA, .int .i64 9, .int .i64 9, .int .i64 0, .int .i64 0, .int .i64 0, .slice (some ⟨w.heap.size, 0, none⟩) 1 1, .int .u64 6, .int .u64 0, .string bB, .int .i64 20, .int .i64 20, .int .i64 2, .int .i64 0, .int .i64 0, .slice (some ⟨w.heap.size + 1 + 1, 0, none⟩) 2 2, .int .u64 7, .int .u64 3] 45)
          have hv : Tasks (w1.alloc (.cells #[.string bA, .int .i64 9, .int .i64 9, .int .i64 0, .int .i64 0, .int .i64 0, .slice (some ⟨w.heap.size, 0, none⟩) 1 1, .int .u64 6, .int .u64 0, .string bB, .int .i64 20, .int .i64 20, .int .i64 2, .int .i64 0, .int .i64 0, .slice (some ⟨w.heap.size + 1 + 1, 0, none⟩) 2 2, .int .u64 7, .int .u64 3] 45)) (.slice (some ⟨w1.heap.size, 0, none⟩) 2 2) (kSw 2 0 0).tasks := tasks_two' (t := kTa) (u := kTb 2 0 0) (Blk.new _ _ _) (ints_one' (hI2.ext hE0)) (ints_two' (hJ2.ext hE0))
          refine (run_kw (kSw_fit (by omega) (by omega) (by omega)) kSw3 kE3_eq _ _ _ hv (SlR.ext hl1 fun _ _ _ h => h.ext hE0) (HG.out _ hEv)).mono ?_
          rintro e w2 ⟨vo, rfl, hO2, hX2⟩
          have hON := OwnL.evs (OwnL.below (OwnL.below hO1 hE0.below) hX2.below)
          obtain ⟨A1, c1, e1', _, _⟩ := OwnL.form hO1
          subst e1'
          obtain ⟨A2, c2, e2', _, _⟩ := OwnL.form hO2
          subst e2'
          have hEO := OwnL.evs hO2
          clear hA3 hB3
          go_wp2_with (fail)
          refine (sameEv_any _ _ kE3 kE3 _ hEO hON).mono ?_
          rintro e w9 ⟨rfl, hX9⟩
          rw [decide_eq_true rfl]
          go_wp2_with (fail)
          refine (HKN.out w9 ((hEv.trans hX2).trans hX9)).mono ?_
          rintro e w10 ⟨rfl, hb10⟩
          go_wp2_with (fail)
          go_ret
          exact ⟨rfl, (((hEv.trans hX2).trans hX9).call hb10).below⟩
        · have e3 : (n == 3) = false := by rw [beq_eq_false_iff_ne]; exact n3
          go_wp2_with (fail)
          go_ret
          exact ⟨rfl, hX.below⟩
end Go.Proofs.YtniejidekflmiaaDoor
