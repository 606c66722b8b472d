/- TolerEdge. -/
import Derived.Test.YtknfdjnbndfboaaDoorProg
import Derived.Test.YtknfdjnbndfboaaDoorBase
import Derived.Test.YtknfdjnbndfboaaDoorHeldX
import Derived.Test.YtknfdjnbndfboaaDoorApp
import Derived.Test.YtknfdjnbndfboaaDoorTsk1
import Derived.Test.YtknfdjnbndfboaaDoorTsk3
import Derived.Test.YtknfdjnbndfboaaDoorTskZ
import Derived.Test.YtknfdjnbndfboaaDoorTskP
import Derived.Test.YtknfdjnbndfboaaDoorTskA
import Derived.Test.YtknfdjnbndfboaaDoorTskO
import Derived.Test.YtknfdjnbndfboaaDoorSetO
import Derived.Test.YtknfdjnbndfboaaDoorRespS
import Derived.Test.YtknfdjnbndfboaaDoorResp
import Derived.Test.YtknfdjnbndfboaaDoorTolA
import Derived.Test.YtknfdjnbndfboaaDoorTolI
import Derived.Test.YtknfdjnbndfboaaDoorTolP
import Derived.Test.YtknfdjnbndfboaaDoorLaw14k
import Derived.Deep.Cut
import Derived.Lib.Hide
namespace Go.Proofs.YtknfdjnbndfboaaDoor
open Go.RowKit
attribute [local go_sem] setCell_twice ByteArray.toList_eq str_list Ext.alloc Ext.drew
set_option linter.unusedSimpArgs false
set_option maxRecDepth 100000
set_option maxHeartbeats 6400000
attribute [local irreducible] popN

theorem may14_all {s : TSet} (h : may14 s = true) : allB s = true := by
  unfold may14 at h
  simp only [Bool.and_eq_true, Bool.not_eq_true', Bool.or_eq_false_iff, Bool.not_eq_false'] at h
  exact h.1.2
theorem may14_D {s : TSet} (h : may14 s = true) (t : Tsk) (ht : t ∈ s.tasks) : 3 ≤ t.T ∧ t.D ≤ 300 := by
  unfold may14 at h
  simp only [Bool.and_eq_true, List.all_eq_true] at h
  have := h.2 t ht
  unfold mayT at this
  simp only [Bool.not_eq_true', Bool.or_eq_false_iff, decide_eq_false_iff_not] at this
  omega
theorem tolI_in {s : TSet} (h : allB s = true) {k : Nat} (hk : k < s.tasks.length) : tolI s k = tolO s k := by
  unfold tolI
  rw [if_pos ⟨by omega, h⟩, Int.toNat_natCast]
theorem tolO_cases {s : TSet} (hs : Fine s) {k : Nat} (hk : k < s.tasks.length) :
    (tolO s k = none ∧ (withS s k 0).2 ≠ 1) ∨ ∃ b : Nat, tolO s k = some (b : Int) ∧ (b : Int) ≤ s.tasks[k].D ∧ (withS s k b).2 = 1 ∧ (withS s k (b + 1)).2 ≠ 1 ∧ ∀ d : Int, 0 ≤ d → d ≤ b → (withS s k d).2 = 1 := by
  have h0 : ∀ d : Int, 0 ≤ d → ((withS s k d).2 = 1 ↔ d < tolN s k) := fun d hd => by
    rw [← tolN_acc hs hk hd]
    unfold accS
    rw [beq_iff_eq]
  have h1 := (tolN_spec (s := s) hk).1
  have h2 := (hs.at k hk).work
  unfold tolO
  by_cases hz : tolN s k = 0
  · rw [if_pos hz]
    exact .inl ⟨rfl, fun h => by have := (h0 0 (by omega)).1 h; omega⟩
  · rw [if_neg hz]
    refine .inr ⟨tolN s k - 1, by congr 1; omega, by omega, (h0 _ (by omega)).2 (by omega), fun h => ?_, fun d hd hdb => (h0 d hd).2 (by omega)⟩
    have := (h0 _ (by omega)).1 h
    omega
theorem tolerEdge_walk (v : Value) (s : TSet) (i less : Int) (w : World) (hv : ∃ x, v = setV s x ∧ Tasks w x s.tasks ∧ s.fit) (wi : (Lit.int .i64 i).wf = true) (_ : (Lit.int .i64 less).wf = true) (hG : GOK w) :
    Calls Tryd.prog 3 #[v, .int .i64 i, .int .i64 less] w fun e w' => e = .returned (.bool true) ∧ Below w.heap.size w w' := by
  obtain ⟨x, rfl, hx, hf⟩ := hv
  have l1 := hx.len
  have hg := hf.good
  have hx0 := hx
  obtain ⟨A, c, rfl, hle, hcm, _⟩ := hx0
  unfold maxLen at hcm
  go_enter Tryd.func3, Tryd.ntmps3
  unfold setV
  go_upto_region 1 with (fail)
  have hL : Below w.heap.size w (w.alloc (.cells #[.int .i64 s.reload, (.slice A s.tasks.length c)] 24)) := (by repeat (first | exact Below.refl _ _ | assumption | refine Below.drew ?_ | refine Below.alloc ?_ (by first | (simp; done) | (simp; omega) | omega) _ | refine Below.setCell ?_ (by first | (simp; done) | (simp; omega) | omega) _)); have hB : Blk (w.alloc (.cells #[.int .i64 s.reload, (.slice A s.tasks.length c)] 24)) w.heap.size #[.int .i64 s.reload, (.slice A s.tasks.length c)] 24 := Blk.new _ _ _
  have hr := hx.ext ⟨hL⟩
  have hG0 := hG.below hL
  generalize w.alloc _ = W at hL hB hr hG0 ⊢
  have hc := hB.under
  refine wp_region_all' (S := Ext W) (Ext.refl W) (fun K hK => ?_); (repeat (first | (apply hO_and; (· rfl); (· rfl); (· rfl); (· rfl); simp only [Act.put, List.setIfInBounds_toArray, List.set_cons_zero, List.set_cons_succ]) | (apply hO_or; (· rfl); (· rfl); (· rfl); (· rfl); simp only [Act.put, List.setIfInBounds_toArray, List.set_cons_zero, List.set_cons_succ]) | (apply hO_off; (· rfl); (· rfl); simp only [Act.put, List.setIfInBounds_toArray, List.set_cons_zero, List.set_cons_succ]) | (apply hO_val; (· intro w hS; go_simp; with_reducible rfl); (· rfl); simp only [Act.put, List.setIfInBounds_toArray, List.set_cons_zero, List.set_cons_succ]) | (apply hO_call; (· rfl); (· intro w hS; go_simp; exact ⟨rfl, rfl⟩); (· intro w hS; exact callX hS (may14_any s _ _ (hr.ext hS) hg)); simp only [Act.put, List.setIfInBounds_toArray, List.set_cons_zero, List.set_cons_succ]) | (apply hO_if; (· rfl); (· rfl); (· intro hif w hS; go_simp; with_reducible rfl); simp only [Act.put, List.setIfInBounds_toArray, List.set_cons_zero, List.set_cons_succ]) | (apply hO_ifcall; (· rfl); (· rfl); (· intro hif w hS; go_simp; exact ⟨rfl, rfl⟩); (· intro hif w hS; exact callX hS (may14_any s _ _ (hr.ext hS) hg)); simp only [Act.put, List.setIfInBounds_toArray, List.set_cons_zero, List.set_cons_succ]))); refine hO_nil ?_; refine forget_range 15 13 (Nat.le_of_ble_eq_true rfl) (fun junk => ?_); simp only [List.take_succ_cons, List.take_zero, List.drop_succ_cons, List.drop_zero, List.cons_append, List.nil_append, fillF, Nat.reduceAdd]; refine hK _ ?_; clear hK K
  intro w1 hX1
  by_cases hin : may14 s = true ∧ 0 ≤ i ∧ i < s.tasks.length
  · obtain ⟨hm, h0, h1⟩ := hin
    have hd : (!may14 s || decide (i < 0) || decide ((s.tasks.length : Int) ≤ i)) = false := by rw [hm]; simp; omega
    rw [hd]
    obtain ⟨k, rfl⟩ := Int.eq_ofNat_of_zero_le h0
    have hk : k < s.tasks.length := by omega
    have hal := may14_all hm
    have hs := fine_of hal hf
    have hti := tolI_in hal hk
    have hcs := tolO_cases hs hk
    have hDD := may14_D hm _ (List.getElem_mem hk)
    obtain ⟨b0, o0, r0, rfl, ht⟩ := hr.at hk
    have HT := Lib.hid fun (W' : World) (h : Ext W W') => tolerOf_any s (.slice (some ⟨b0, o0, none⟩) s.tasks.length c) k W' (hr.ext h) hf (hG0.below h.below)
    have HW := Lib.hid fun (d : Int) (W' : World) (h : Ext W W') => refWith_any s (.slice (some ⟨b0, o0, none⟩) s.tasks.length c) k d W' (hr.ext h) hs hk
    have HK := Lib.hid fun (W' : World) (h : Ext W W') => known14_any W' (hG0.below h.below)
    rw [hti] at HT
    clear hd hm hal hti
    have hc1 := hc w1 hX1
    have hT1 := HT.out w1 hX1
    rcases hcs with ⟨he, hn⟩ | ⟨b, he, hbD, ha, hn, hdn⟩
    · rw [he] at hT1
      unfold optN at hT1
      go_wp2_with (fail)
      refine hT1.mono ?_
      rintro e w2 ⟨rfl, hb2⟩
      have hX2 := hX1.call hb2
      have hc2 := hc w2 hX2
      clear hc1
      go_wp2_with (fail)
      refine (HW.out 0 w2 hX2).mono ?_
      rintro e w3 ⟨rfl, hb3⟩
      have hX3 := hX2.call hb3
      generalize withS s k 0 = p at hn ⊢
      obtain ⟨p1, p2⟩ := p
      unfold pairZ
      dsimp only at hn ⊢
      go_wp2_with (fail)
      refine (HK.out w3 hX3).mono ?_
      rintro e w4 ⟨rfl, hb4⟩
      go_wp2_with (fail)
      go_ret
      exact ⟨rb (bne_iff_ne.2 hn), hL.trans ((hX3.call hb4).below.mono hL.size)⟩
    · rw [he] at hT1
      unfold optN at hT1
      dsimp only at hT1
      have h00 := hdn ((b : Int) - min (max less 0) b) (by omega) (by omega)
      clear hdn
      go_wp2_with (fail)
      refine hT1.mono ?_
      rintro e w2 ⟨rfl, hb2⟩
      have hX2 := hX1.call hb2
      have hc2 := hc w2 hX2
      clear hc1
      go_wp2_with (fail)
      refine (HW.out b w2 hX2).mono ?_
      rintro e w3 ⟨rfl, hb3⟩
      have hX3 := hX2.call hb3
      have hc3 := hc w3 hX3
      clear hc2
      generalize withS s k b = p at ha ⊢
      obtain ⟨p1, p2⟩ := p
      unfold pairZ
      dsimp only at ha ⊢
      subst ha
      go_wp2_with (fail)
      refine (HW.out (b + 1) w3 hX3).mono ?_
      rintro e w4 ⟨rfl, hb4⟩
      have hX4 := hX3.call hb4
      have hc4 := hc w4 hX4
      clear hc3
      generalize withS s k (b + 1) = q at hn ⊢
      obtain ⟨q1, q2⟩ := q
      unfold pairZ
      dsimp only at hn ⊢
      go_wp2_with (fail)
      refine (HW.out ((b : Int) - min (max less 0) b) w4 hX4).mono ?_
      rintro e w5 ⟨rfl, hb5⟩
      have hX5 := hX4.call hb5
      have hc5 := hc w5 hX5
      clear hc4
      generalize withS s k ((b : Int) - min (max less 0) b) = r at h00 ⊢
      obtain ⟨r1, r2⟩ := r
      unfold pairZ
      dsimp only at h00 ⊢
      subst h00
      obtain ⟨x0, x1, x2, x3, x4, x5, x6, x7, x8⟩ := ht.under
      have hx2 := x2 w5 hX5
      clear x0 x1 x2 x3 x4 x5 x6 x7 x8
      go_wp2_with (fail)
      refine (HK.out w5 hX5).mono ?_
      rintro e w6 ⟨rfl, hb6⟩
      go_wp2_with (fail)
      go_ret
      exact ⟨rb (bne_iff_ne.2 hn), hL.trans ((hX5.call hb6).below.mono hL.size)⟩
  · have hd : (!may14 s || decide (i < 0) || decide ((s.tasks.length : Int) ≤ i)) = true := by
      cases hm : may14 s with
      | false => simp
      | true =>
        rw [hm] at hin
        simp only [true_and] at hin
        simp
        omega
    rw [hd]
    go_wp2_with (fail)
    go_ret
    exact ⟨rfl, hL.trans (hX1.below.mono hL.size)⟩
end Go.Proofs.YtknfdjnbndfboaaDoor
