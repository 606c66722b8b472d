/- ref5.Same. -/
import Derived.Test.YtknfdjnbndfboabGreatDoorProg
import Derived.Test.YtknfdjnbndfboabGreatDoorBase
import Derived.Test.YtknfdjnbndfboabGreatDoorHeldX
import Derived.Test.YtknfdjnbndfboabGreatDoorTsk1
import Derived.Test.YtknfdjnbndfboabGreatDoorTsk3
import Derived.Test.YtknfdjnbndfboabGreatDoorTskZ
import Derived.Test.YtknfdjnbndfboabGreatDoorTskD
import Derived.BigQuiet
import Derived.Deep.QuietTactic
import Derived.Lib.Hide
import Derived.Deep.Cut
namespace Go.Proofs.YtknfdjnbndfboabGreatDoor
open Go.RowKit
attribute [local go_sem] setCell_twice ByteArray.toList_eq str_list Ext.alloc Ext.drew

set_option linter.unusedSimpArgs false
set_option maxHeartbeats 6400000 in
set_option maxRecDepth 100000 in
theorem sameR_any (s u : TSet) (v v' : Value) (w : World) (hv : Tasks w v s.tasks) (hu : Tasks w v' u.tasks) :
    Calls Tryz.prog 12 #[setV s v, setV u v'] w fun e w' => e = .returned (.bool (decide (s = u))) ∧ Below w.heap.size w w' := by
  have l1 := hv.len
  have l2 := hu.len
  have hv0 := hv
  have hu0 := hu
  obtain ⟨A, c, rfl, _, _, _⟩ := hv0
  obtain ⟨A', c', rfl, _, _, _⟩ := hu0
  go_enter Tryz.func12, Tryz.ntmps12
  unfold setV
  go_upto_region 1 with (fail)
  have hL : Below w.heap.size w ((w.alloc (.cells #[.int .i64 s.reload, (.slice A s.tasks.length c)] 24)).alloc (.cells #[.int .i64 u.reload, (.slice A' u.tasks.length c')] 24)) := (by repeat (first | exact Below.refl _ _ | assumption | refine Below.drew ?_ | refine Below.alloc ?_ (by first | (simp; done) | (simp; omega) | omega) _ | refine Below.setCell ?_ (by first | (simp; done) | (simp; omega) | omega) _)); have hB : Blk ((w.alloc (.cells #[.int .i64 s.reload, (.slice A s.tasks.length c)] 24)).alloc (.cells #[.int .i64 u.reload, (.slice A' u.tasks.length c')] 24)) w.heap.size #[.int .i64 s.reload, (.slice A s.tasks.length c)] 24 := (Blk.new _ _ _).alloc _; have hB2 : Blk ((w.alloc (.cells #[.int .i64 s.reload, (.slice A s.tasks.length c)] 24)).alloc (.cells #[.int .i64 u.reload, (.slice A' u.tasks.length c')] 24)) (w.heap.size + 1) #[.int .i64 u.reload, (.slice A' u.tasks.length c')] 24 := Blk.new_at _ _ _ _ (by simp)
  have hr1 := hv.ext ⟨hL⟩
  have hu1 := hu.ext ⟨hL⟩
  generalize (w.alloc _).alloc _ = W at hL hB hB2 hr1 hu1 ⊢
  have hc := hB.under
  have hc2 := hB2.under
  refine wp_region_all' (S := Ext W) (Ext.refl W) (fun K hK => ?_); (repeat (first | (apply hO_and; (· rfl); (· rfl); (· rfl); (· rfl); simp only [Act.put, List.setIfInBounds_toArray, List.set_cons_zero, List.set_cons_succ]) | (apply hO_or; (· rfl); (· rfl); (· rfl); (· rfl); simp only [Act.put, List.setIfInBounds_toArray, List.set_cons_zero, List.set_cons_succ]) | (apply hO_off; (· rfl); (· rfl); simp only [Act.put, List.setIfInBounds_toArray, List.set_cons_zero, List.set_cons_succ]) | (apply hO_val; (· intro w hS; go_simp; with_reducible rfl); (· rfl); simp only [Act.put, List.setIfInBounds_toArray, List.set_cons_zero, List.set_cons_succ]) | (apply hO_call; (· rfl); (· intro w hS; go_simp; exact ⟨rfl, rfl⟩); (· intro w hS; fail); simp only [Act.put, List.setIfInBounds_toArray, List.set_cons_zero, List.set_cons_succ]) | (apply hO_if; (· rfl); (· rfl); (· intro hif w hS; go_simp; with_reducible rfl); simp only [Act.put, List.setIfInBounds_toArray, List.set_cons_zero, List.set_cons_succ]) | (apply hO_ifcall; (· rfl); (· rfl); (· intro hif w hS; go_simp; exact ⟨rfl, rfl⟩); (· intro hif w hS; fail); simp only [Act.put, List.setIfInBounds_toArray, List.set_cons_zero, List.set_cons_succ]))); refine hO_nil ?_; refine forget_range 8 13 (Nat.le_of_ble_eq_true rfl) (fun junk => ?_); simp only [List.take_succ_cons, List.take_zero, List.drop_succ_cons, List.drop_zero, List.cons_append, List.nil_append, fillF, Nat.reduceAdd]; refine hK _ ?_; clear hK K
  intro w1 hX1
  cases hb : (s.reload != u.reload || (s.tasks.length : Int) != (u.tasks.length : Int)) with
  | true =>
    have HB := Lib.hid hb; clear hb
    go_wp2_with (fail)
    go_ret
    refine ⟨rb ?_, hL.trans (hX1.below.mono hL.size)⟩
    have := HB.out
    simp only [Bool.or_eq_true, bne_iff_ne, ne_eq] at this
    refine (decide_eq_false fun e => ?_).symm
    subst e
    simp at this
  | false =>
    have HB := Lib.hid hb; clear hb
    have hlen : s.tasks.length = u.tasks.length := by
      have := HB.out
      simp only [Bool.or_eq_false_iff, bne_eq_false_iff_eq] at this
      omega
    have hrel0 : s.reload = u.reload := by
      have := HB.out
      simp only [Bool.or_eq_false_iff, bne_eq_false_iff_eq] at this
      exact this.1
    have HL := Lib.hid hlen; clear hlen
    have HR := Lib.hid hrel0; clear hrel0
    go_wp2_with (fail)
    go_loopw [5] (fun i wr => ∃ k : Nat, k ≤ s.tasks.length ∧ i = .int .i64 k ∧ Hid (s.tasks.take k = u.tasks.take k) ∧ Ext W wr) (fun i _ => s.tasks.length - (intOf i).toNat)
    case atStart => exact ⟨0, Nat.zero_le _, rfl, Lib.hid rfl, hX1⟩
    case round =>
      obtain ⟨k, hk, rfl, ht, hX⟩ := hrel
      by_cases hlt : k < s.tasks.length
      · have hlt' : k < u.tasks.length := by rw [← HL.out]; exact hlt
        obtain ⟨b, o, r, rfl, hx⟩ := hr1.at hlt
        obtain ⟨b', o', r', rfl, hy⟩ := hu1.at hlt'
        have he := fun e => take_eq_step hlt hlt' ht.out e
        have hne : s.tasks[k] ≠ u.tasks[k] → s ≠ u := fun h e => h (by subst e; rfl)
        generalize s.tasks[k] = x at hx he hne
        generalize u.tasks[k] = y at hy he hne
        have HE := Lib.hid he; clear he
        have HN := Lib.hid hne; clear hne
        obtain ⟨Ax, cx, rfl⟩ := hx.row
        obtain ⟨Ay, cy, rfl⟩ := hy.row
        obtain ⟨x0, x1, x2, x3, x4, x5, x6, x7, x8⟩ := hx.under
        obtain ⟨y0, y1, y2, y3, y4, y5, y6, y7, y8⟩ := hy.under
        go_upto_region 6 with (fail)
        refine' wp_region_mix2 (T := [10, 11, 12, 13]) (S := Ext W) (fun g g' w => Ext W w ∧ Blk w g #[.string x.name, .int .i64 x.T, .int .i64 x.D, .int .i64 x.mode, .int .i64 x.q, .int .i64 x.theta, (.slice Ax x.regs.length cx), .int .u64 x.ecb, .int .u64 x.ucb] 41 ∧ Blk w g' #[.string y.name, .int .i64 y.T, .int .i64 y.D, .int .i64 y.mode, .int .i64 y.q, .int .i64 y.theta, (.slice Ay y.regs.length cy), .int .u64 y.ecb, .int .u64 y.ucb] 41) (Ext.mono W) (by kernel_rfl) (by kernel_rfl) (Ext.refl wr).drew hX (fun K hK => ?_) ?_
        rotate_left 1
        · (repeat (first | (refine hX_skip ?_ ?_; (· rfl)) | (apply hX_and; (· rfl); (· rfl); (· rfl); (· rfl); (· rfl); simp only [Act.put, List.setIfInBounds_toArray, List.set_cons_zero, List.set_cons_succ]) | (apply hX_or; (· rfl); (· rfl); (· rfl); (· rfl); (· rfl); simp only [Act.put, List.setIfInBounds_toArray, List.set_cons_zero, List.set_cons_succ]) | (apply hX_off; (· rfl); (· rfl); (· rfl); simp only [Act.put, List.setIfInBounds_toArray, List.set_cons_zero, List.set_cons_succ]) | (apply hX_val; (· rfl); (· intro w hS; go_simp; with_reducible rfl); (· rfl); simp only [Act.put, List.setIfInBounds_toArray, List.set_cons_zero, List.set_cons_succ]) | (apply hX_call; (· rfl); (· rfl); (· intro w hS; go_simp; exact ⟨rfl, rfl⟩); (· intro w hS; fail); simp only [Act.put, List.setIfInBounds_toArray, List.set_cons_zero, List.set_cons_succ]) | (apply hX_if; (· rfl); (· rfl); (· rfl); (· intro hif w hS; go_simp; with_reducible rfl); simp only [Act.put, List.setIfInBounds_toArray, List.set_cons_zero, List.set_cons_succ]) | (apply hX_ifcall; (· rfl); (· rfl); (· rfl); (· intro hif w hS; go_simp; exact ⟨rfl, rfl⟩); (· intro hif w hS; fail); simp only [Act.put, List.setIfInBounds_toArray, List.set_cons_zero, List.set_cons_succ]))); refine hX_nil ?_
          refine hK _ ?_
          clear hK K
          refine wpX_two (i := 10) (j := 11) (by kernel_rfl) rfl rfl rfl rfl ?_ ?_
          · intro w2 hx2 K hK
            go_simp
            have hb1 : Blk (w2.alloc (.cells #[.string ⟨#[]⟩, .int .i64 0, .int .i64 0, .int .i64 0, .int .i64 0, .int .i64 0, .slice none 0 0, .int .u64 0, .int .u64 0] 41)) w2.heap.size #[.string ⟨#[]⟩, .int .i64 0, .int .i64 0, .int .i64 0, .int .i64 0, .int .i64 0, .slice none 0 0, .int .u64 0, .int .u64 0] 41 := Blk.new _ _ _
            have hE2 : Ext W (w2.alloc (.cells #[.string ⟨#[]⟩, .int .i64 0, .int .i64 0, .int .i64 0, .int .i64 0, .int .i64 0, .slice none 0 0, .int .u64 0, .int .u64 0] 41)) := (hX.trans hx2).alloc _
            have hg1 : W.heap.size ≤ w2.heap.size := (hX.trans hx2).size
            refine hK _ _ hE2 ?_
            clear hK K hx2
            generalize w2.heap.size = g1 at hb1 hg1 ⊢
            generalize w2.alloc _ = W2 at hb1 hE2 ⊢
            refine wpX_one (i := 11) (by kernel_rfl) rfl rfl ?_
            intro w3 hx3 K hK
            go_simp
            have hb2 : Blk (w3.alloc (.cells #[.string ⟨#[]⟩, .int .i64 0, .int .i64 0, .int .i64 0, .int .i64 0, .int .i64 0, .slice none 0 0, .int .u64 0, .int .u64 0] 41)) w3.heap.size #[.string ⟨#[]⟩, .int .i64 0, .int .i64 0, .int .i64 0, .int .i64 0, .int .i64 0, .slice none 0 0, .int .u64 0, .int .u64 0] 41 := Blk.new _ _ _
            have hE3 : Ext W (w3.alloc (.cells #[.string ⟨#[]⟩, .int .i64 0, .int .i64 0, .int .i64 0, .int .i64 0, .int .i64 0, .slice none 0 0, .int .u64 0, .int .u64 0] 41)) := (hE2.trans hx3).alloc _
            have hg2 : W.heap.size ≤ w3.heap.size := (hE2.trans hx3).size
            have hne : g1 ≠ w3.heap.size := Nat.ne_of_lt (hb1.ext hx3).lt
            have hb1 := (hb1.ext hx3).alloc (.cells #[.string ⟨#[]⟩, .int .i64 0, .int .i64 0, .int .i64 0, .int .i64 0, .int .i64 0, .slice none 0 0, .int .u64 0, .int .u64 0] 41)
            refine hK _ _ hE3 ?_
            clear hK K hx3 hE2
            generalize w3.heap.size = g2 at hb2 hg2 hne ⊢
            generalize w3.alloc _ = W3 at hb1 hb2 hE3 ⊢
            refine wpX_one (i := 12) (by kernel_rfl) rfl rfl ?_
            intro w4 hx4 K hK
            have hb1 := hb1.ext hx4
            have hb2 := hb2.ext hx4
            have hE4 := hE3.trans hx4
            clear hx4
            have hc4 := hb1.cell
            have hf4 := hb1.free
            go_simp
            refine hK _ _ (ext_ch9 hE4 hg1) ?_
            clear hK K hc4 hf4
            have hE5 := ext_ch9 (v0 := .string x.name) (v1 := .int .i64 x.T) (v2 := .int .i64 x.D) (v3 := .int .i64 x.mode) (v4 := .int .i64 x.q) (v5 := .int .i64 x.theta) (v6 := .slice Ax x.regs.length cx) (v7 := .int .u64 x.ecb) (v8 := .int .u64 x.ucb) hE4 hg1
            have hd1 := blk_ch9 (v0 := .string x.name) (v1 := .int .i64 x.T) (v2 := .int .i64 x.D) (v3 := .int .i64 x.mode) (v4 := .int .i64 x.q) (v5 := .int .i64 x.theta) (v6 := .slice Ax x.regs.length cx) (v7 := .int .u64 x.ecb) (v8 := .int .u64 x.ucb) hb1
            have hd2 := blk_ch9_far (g := g1) (v0 := .string x.name) (v1 := .int .i64 x.T) (v2 := .int .i64 x.D) (v3 := .int .i64 x.mode) (v4 := .int .i64 x.q) (v5 := .int .i64 x.theta) (v6 := .slice Ax x.regs.length cx) (v7 := .int .u64 x.ecb) (v8 := .int .u64 x.ucb) hb2 (by omega)
            generalize World.setCell _ _ (.int .u64 x.ucb) = W4 at hE5 hd1 hd2 ⊢
            clear hb1 hb2 hE4 hE3
            refine wpX_one (i := 13) (by kernel_rfl) rfl rfl ?_
            intro w5 hx5 K hK
            have hd1 := hd1.ext hx5
            have hd2 := hd2.ext hx5
            have hE6 := hE5.trans hx5
            clear hx5 hE5
            have hc4 := hd2.cell
            have hf4 := hd2.free
            go_simp
            refine hK _ _ (ext_ch9 hE6 hg2) ?_
            refine wpX_done (by kernel_rfl) (fun w6 hx6 => ⟨g1, g2, rfl, ?_, ?_, ?_⟩) _
            · exact (ext_ch9 hE6 hg2).trans hx6
            · exact (blk_ch9_far hd1 (by omega)).ext hx6
            · exact (blk_ch9 hd2).ext hx6
          · intro w2 hx2 K hK
            go_simp
            have hb2 : Blk (w2.alloc (.cells #[.string ⟨#[]⟩, .int .i64 0, .int .i64 0, .int .i64 0, .int .i64 0, .int .i64 0, .slice none 0 0, .int .u64 0, .int .u64 0] 41)) w2.heap.size #[.string ⟨#[]⟩, .int .i64 0, .int .i64 0, .int .i64 0, .int .i64 0, .int .i64 0, .slice none 0 0, .int .u64 0, .int .u64 0] 41 := Blk.new _ _ _
            have hE2 : Ext W (w2.alloc (.cells #[.string ⟨#[]⟩, .int .i64 0, .int .i64 0, .int .i64 0, .int .i64 0, .int .i64 0, .slice none 0 0, .int .u64 0, .int .u64 0] 41)) := (hX.trans hx2).alloc _
            have hg2 : W.heap.size ≤ w2.heap.size := (hX.trans hx2).size
            refine hK _ _ hE2 ?_
            clear hK K hx2
            generalize w2.heap.size = g2 at hb2 hg2 ⊢
            generalize w2.alloc _ = W2 at hb2 hE2 ⊢
            refine wpX_one (i := 10) (by kernel_rfl) rfl rfl ?_
            intro w3 hx3 K hK
            go_simp
            have hb1 : Blk (w3.alloc (.cells #[.string ⟨#[]⟩, .int .i64 0, .int .i64 0, .int .i64 0, .int .i64 0, .int .i64 0, .slice none 0 0, .int .u64 0, .int .u64 0] 41)) w3.heap.size #[.string ⟨#[]⟩, .int .i64 0, .int .i64 0, .int .i64 0, .int .i64 0, .int .i64 0, .slice none 0 0, .int .u64 0, .int .u64 0] 41 := Blk.new _ _ _
            have hE3 : Ext W (w3.alloc (.cells #[.string ⟨#[]⟩, .int .i64 0, .int .i64 0, .int .i64 0, .int .i64 0, .int .i64 0, .slice none 0 0, .int .u64 0, .int .u64 0] 41)) := (hE2.trans hx3).alloc _
            have hg1 : W.heap.size ≤ w3.heap.size := (hE2.trans hx3).size
            have hne : g2 ≠ w3.heap.size := Nat.ne_of_lt (hb2.ext hx3).lt
            have hb2 := (hb2.ext hx3).alloc (.cells #[.string ⟨#[]⟩, .int .i64 0, .int .i64 0, .int .i64 0, .int .i64 0, .int .i64 0, .slice none 0 0, .int .u64 0, .int .u64 0] 41)
            refine hK _ _ hE3 ?_
            clear hK K hx3 hE2
            generalize w3.heap.size = g1 at hb1 hg1 hne ⊢
            generalize w3.alloc _ = W3 at hb1 hb2 hE3 ⊢
            refine wpX_one (i := 12) (by kernel_rfl) rfl rfl ?_
            intro w4 hx4 K hK
            have hb1 := hb1.ext hx4
            have hb2 := hb2.ext hx4
            have hE4 := hE3.trans hx4
            clear hx4
            have hc4 := hb1.cell
            have hf4 := hb1.free
            go_simp
            refine hK _ _ (ext_ch9 hE4 hg1) ?_
            clear hK K hc4 hf4
            have hE5 := ext_ch9 (v0 := .string x.name) (v1 := .int .i64 x.T) (v2 := .int .i64 x.D) (v3 := .int .i64 x.mode) (v4 := .int .i64 x.q) (v5 := .int .i64 x.theta) (v6 := .slice Ax x.regs.length cx) (v7 := .int .u64 x.ecb) (v8 := .int .u64 x.ucb) hE4 hg1
            have hd1 := blk_ch9 (v0 := .string x.name) (v1 := .int .i64 x.T) (v2 := .int .i64 x.D) (v3 := .int .i64 x.mode) (v4 := .int .i64 x.q) (v5 := .int .i64 x.theta) (v6 := .slice Ax x.regs.length cx) (v7 := .int .u64 x.ecb) (v8 := .int .u64 x.ucb) hb1
            have hd2 := blk_ch9_far (g := g1) (v0 := .string x.name) (v1 := .int .i64 x.T) (v2 := .int .i64 x.D) (v3 := .int .i64 x.mode) (v4 := .int .i64 x.q) (v5 := .int .i64 x.theta) (v6 := .slice Ax x.regs.length cx) (v7 := .int .u64 x.ecb) (v8 := .int .u64 x.ucb) hb2 (by omega)
            generalize World.setCell _ _ (.int .u64 x.ucb) = W4 at hE5 hd1 hd2 ⊢
            clear hb1 hb2 hE4 hE3
            refine wpX_one (i := 13) (by kernel_rfl) rfl rfl ?_
            intro w5 hx5 K hK
            have hd1 := hd1.ext hx5
            have hd2 := hd2.ext hx5
            have hE6 := hE5.trans hx5
            clear hx5 hE5
            have hc4 := hd2.cell
            have hf4 := hd2.free
            go_simp
            refine hK _ _ (ext_ch9 hE6 hg2) ?_
            refine wpX_done (by kernel_rfl) (fun w6 hx6 => ⟨g1, g2, rfl, ?_, ?_, ?_⟩) _
            · exact (ext_ch9 hE6 hg2).trans hx6
            · exact (blk_ch9_far hd1 (by omega)).ext hx6
            · exact (blk_ch9 hd2).ext hx6
        · intro g1 g2 w2 hG
          obtain ⟨hX2, hb1, hb2⟩ := hG
          have hX2 := hX2
          have hc5 := hb1.under
          have hc6 := hb2.under
          have hrx := hx.1.ext hX2
          have hry := hy.1.ext hX2
          go_upto_region 7 with (fail)
          refine wp_region_all' (S := Ext w2) (Ext.refl w2) (fun K hK => ?_); (repeat (first | (apply hO_and; (· rfl); (· rfl); (· rfl); (· rfl); simp only [Act.put, List.setIfInBounds_toArray, List.set_cons_zero, List.set_cons_succ]) | (apply hO_or; (· rfl); (· rfl); (· rfl); (· rfl); simp only [Act.put, List.setIfInBounds_toArray, List.set_cons_zero, List.set_cons_succ]) | (apply hO_off; (· rfl); (· rfl); simp only [Act.put, List.setIfInBounds_toArray, List.set_cons_zero, List.set_cons_succ]) | (apply hO_val; (· intro w hS; go_simp; with_reducible rfl); (· rfl); simp only [Act.put, List.setIfInBounds_toArray, List.set_cons_zero, List.set_cons_succ]) | (apply hO_call; (· rfl); (· intro w hS; go_simp; exact ⟨rfl, rfl⟩); (· intro w hS; exact callX hS (nums_any _ _ _ _ _ (hrx.ext hS) (hry.ext hS))); simp only [Act.put, List.setIfInBounds_toArray, List.set_cons_zero, List.set_cons_succ]) | (apply hO_if; (· rfl); (· rfl); (· intro hif w hS; go_simp; with_reducible rfl); simp only [Act.put, List.setIfInBounds_toArray, List.set_cons_zero, List.set_cons_succ]) | (apply hO_ifcall; (· rfl); (· rfl); (· intro hif w hS; go_simp; exact ⟨rfl, rfl⟩); (· intro hif w hS; exact callX hS (nums_any _ _ _ _ _ (hrx.ext hS) (hry.ext hS))); simp only [Act.put, List.setIfInBounds_toArray, List.set_cons_zero, List.set_cons_succ]))); refine hO_nil ?_; refine forget_range 39 61 (Nat.le_of_ble_eq_true rfl) (fun junk => ?_); simp only [List.take_succ_cons, List.take_zero, List.drop_succ_cons, List.drop_zero, List.cons_append, List.nil_append, fillF, Nat.reduceAdd]; refine hK _ ?_; clear hK K
          intro w3 hX3
          rw [diffB_eq]
          by_cases e : x = y
          · have ht2 := HE.out e
            rw [decide_eq_true e]
            clear e
            have HT2 := Lib.hid ht2; clear ht2
            go_wp2_with (fail)
            exact ⟨⟨k + 1, hlt, rfl, HT2, hX2.trans hX3⟩, by simp [intOf]; omega⟩
          · have hn := Lib.hid (HN.out e)
            rw [decide_eq_false e]
            clear e
            go_wp2_with (fail)
            go_ret
            exact ⟨by rw [decide_eq_false hn.out]; rfl, hL.trans ((hX2.trans hX3).below.mono hL.size)⟩
      · obtain rfl : k = s.tasks.length := by omega
        go_wp2_with (fail)
        go_ret
        exact ⟨by rw [decide_eq_true (TSet.ext' HR.out (take_eq_end HL.out ht.out))]; rfl, hL.trans (hX.below.mono hL.size)⟩
end Go.Proofs.YtknfdjnbndfboabGreatDoor
