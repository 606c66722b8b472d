import Derived.Test.YtakiicbcephbhaaDoorProg
import Derived.Test.YtakiicbcephbhaaDoorBase
import Derived.Test.YtakiicbcephbhaaDoorBase2
import Derived.Test.YtakiicbcephbhaaDoorLexM
import Derived.Test.YtakiicbcephbhaaDoorLex1
import Derived.Test.YtakiicbcephbhaaDoorLex3
import Derived.Test.YtakiicbcephbhaaDoorTskM
import Derived.Test.YtakiicbcephbhaaDoorTsk1
import Derived.Test.YtakiicbcephbhaaDoorTsk2
import Derived.Test.YtakiicbcephbhaaDoorTsk3
import Derived.Test.YtakiicbcephbhaaDoorTsk4
import Derived.Test.YtakiicbcephbhaaDoorTskO
import Derived.Test.YtakiicbcephbhaaDoorLaw5a
import Derived.BigQuiet
import Derived.Deep.QuietTactic
import Derived.RegionCalls
import Derived.Deep.RegionWith
namespace Go.Proofs.YtakiicbcephbhaaDoor
open Go.RowKit
set_option linter.unusedSimpArgs false
attribute [local go_sem] setCell_twice ByteArray.toList_eq str_list

theorem modeB_more {t : Tsk} {p more : Int} (h : modeB t p = true) (hm : 0 ≤ more) : modeB t (p + more) = true := by
  unfold modeB at *
  cases h0 : t.mode == 0 with
  | true => rw [h0] at h; exact h
  | false =>
    cases h1 : t.mode == 1 with
    | true => rw [h0, h1] at h; exact h
    | false =>
      cases h2 : t.mode == 2 with
      | true =>
        rw [h0, h1, h2] at h
        simp only [cond_false, cond_true, Bool.and_eq_true, decide_eq_true_eq] at h ⊢
        exact ⟨h.1, h.2.1, by omega⟩
      | false => rw [h0, h1, h2] at h; cases h
theorem isB_more {t : Tsk} {p more : Int} (h : isB t p = true) (hm : 0 ≤ more) : isB t (p + more) = true := by
  unfold isB at *
  simp only [Bool.and_eq_true] at *
  exact ⟨h.1, h.2.1, h.2.2.1, h.2.2.2.1, h.2.2.2.2.1, modeB_more h.2.2.2.2.2.1 hm, h.2.2.2.2.2.2⟩
theorem isB_edge {t : Tsk} {p : Int} (h : isB t p = true) (hmode : t.mode = 2) : isB t (t.theta - 1) = false ∧ 0 ≤ t.theta ∧ t.theta ≤ p := by
  have hm : modeB t p = true := by
    unfold isB at h
    simp only [Bool.and_eq_true] at h
    exact h.2.2.2.2.2.1
  have hx : modeB t (t.theta - 1) = false := by
    unfold modeB
    rw [hmode]
    simp
    omega
  unfold modeB at hm
  rw [hmode] at hm
  simp only [show ((2 : Int) == 0) = false from rfl, show ((2 : Int) == 1) = false from rfl, show ((2 : Int) == 2) = true from rfl, cond_false, cond_true, Bool.and_eq_true, decide_eq_true_eq] at hm
  refine ⟨?_, hm.2.1, hm.2.2⟩
  unfold isB
  rw [hx]
  simp

set_option maxHeartbeats 6400000 in
set_option maxRecDepth 100000 in
theorem taskPriority_walk (v : Value) (t : Tsk) (p more : Int) (w : World) (hv : ∃ r, v = tskV t r ∧ Ints w r t.regs ∧ t.name.size ≤ maxLen ∧ t.ok) (_ : (Lit.int .i64 p).wf = true) (_ : (Lit.int .i64 more).wf = true) (hG : GOK w) :
    Calls Tryd.prog 10 #[v, .int .i64 p, .int .i64 more] w fun e w' => e = .returned (.bool true) ∧ Below w.heap.size w w' := by
  obtain ⟨r, rfl, hr, hs, _⟩ := hv

  have his := fun (p' : Int) (W : World) (h : Ints W r t.regs) (g : GOK W) => is_any t r p' W h hs g
  have hisR := fun (W : World) (h : Ints W r t.regs) => isR_any t r p W h hs
  have hmore := fun (h : isB t p = true) (hm : 0 ≤ more) => isB_more h hm
  have hedge := fun (h : isB t p = true) (hm : t.mode = 2) => isB_edge h hm
  generalize isB t = f at his hisR hmore hedge
  obtain ⟨nm, T, D, mode, q, theta, xs, ecb, ucb⟩ := t
  unfold tskV at his hisR ⊢
  dsimp only at his hisR hr hmore hedge ⊢
  have HI := Lib.hid his; clear his
  have HR := Lib.hid hisR; clear hisR
  have HO := Lib.hid hmore; clear hmore
  have HE := Lib.hid hedge; clear hedge
  have hI0 := hr
  obtain ⟨A, c, rfl, h1, h2, h3⟩ := hr
  clear h3
  unfold maxLen at h2
  go_enter Tryd.func10, Tryd.ntmps10
  by_cases c1 : xs.length ≤ 20
  · by_cases c2 : 0 ≤ p
    · by_cases c3 : p ≤ 100
      · by_cases c4 : 0 ≤ more
        · by_cases c5 : more ≤ 100
          · go_wp2_with (fail)
            have hIa := hI0.alloc (.cells #[.string nm, .int .i64 T, .int .i64 D, .int .i64 mode, .int .i64 q, .int .i64 theta, .slice A xs.length c, .int .u64 ecb, .int .u64 ucb] 42)
            have hLa : Below w.heap.size w (w.alloc (.cells #[.string nm, .int .i64 T, .int .i64 D, .int .i64 mode, .int .i64 q, .int .i64 theta, .slice A xs.length c, .int .u64 ecb, .int .u64 ucb] 42)) := (by repeat (first | exact Below.refl _ _ | assumption | refine Below.drew ?_ | refine Below.alloc ?_ (by first | (simp; done) | (simp; omega) | omega) _ | refine Below.setCell ?_ (by first | (simp; done) | (simp; omega) | omega) _))
            refine (HR.out _ hIa).mono ?_
            rintro e w1 ⟨rfl, hb⟩
            have hB0 := ((Blk.new _ _ _)).below hb (by first | (simp; done) | (simp; omega) | omega); have cB0 := hB0.cell; have fB0 := hB0.free
            have hL := hLa.trans (hb.mono hLa.size)
            have hI := hIa.below hb
            have hG2 := hG.below hL
            clear hIa hLa hb
            cases hm : f p with
            | true =>
              have hm2 := HO.out hm c4
              go_wp2_with (fail)
              refine (HI.out _ _ hI hG2).mono ?_
              rintro e w2 ⟨rfl, hb2⟩
              rw [hm]
              have hL2 := hL.trans (hb2.mono hL.size)
              have hI2 := hI.below hb2
              have hG3 := hG.below hL2
              have hB1 := hB0.below hb2 hB0.lt
              have cB1 := hB1.cell
              have fB1 := hB1.free
              clear hB0 cB0 fB0 hL hI hG2 hb2
              go_wp2_with (fail)
              refine (HI.out _ _ hI2 hG3).mono ?_
              rintro e w3 ⟨rfl, hb3⟩
              rw [hm2]
              have hL3 := hL2.trans (hb3.mono hL2.size)
              have hI3 := hI2.below hb3
              have hG4 := hG.below hL3
              have hB2 := hB1.below hb3 hB1.lt
              have cB2 := hB2.cell
              have fB2 := hB2.free
              clear hB1 cB1 fB1 hL2 hI2 hG3 hb3
              by_cases hmode : mode = 2
              · obtain ⟨g1, g2, g3⟩ := HE.out hm hmode
                subst hmode
                go_wp2_with (fail)
                refine (HI.out _ _ hI3 hG4).mono ?_
                rintro e w4 ⟨rfl, hb4⟩
                rw [g1]
                have hL4 := hL3.trans (hb4.mono hL3.size)
                have hG5 := hG.below hL4
                go_wp2_with (go_at_call 24; refine (known5_any _ hG5).mono ?_; rintro e w5 ⟨rfl, hb5⟩)
                go_ret
                exact ⟨rfl, hL4.trans (hb5.mono hL4.size)⟩
              · have hmb : (mode != 2) = true := by simpa using hmode
                clear hmode
                go_wp2_with (go_at_call 24; refine (known5_any _ hG4).mono ?_; rintro e w5 ⟨rfl, hb5⟩)
                go_ret
                exact ⟨rfl, hL3.trans (hb5.mono hL3.size)⟩
            | false =>
              go_wp2_with (fail)
              go_ret
              exact ⟨rfl, hL⟩
          · go_wp2_with (fail)
            go_ret
            exact ⟨rfl, (by repeat (first | exact Below.refl _ _ | assumption | refine Below.drew ?_ | refine Below.alloc ?_ (by first | (simp; done) | (simp; omega) | omega) _ | refine Below.setCell ?_ (by first | (simp; done) | (simp; omega) | omega) _))⟩
        · go_wp2_with (fail)
          go_ret
          exact ⟨rfl, (by repeat (first | exact Below.refl _ _ | assumption | refine Below.drew ?_ | refine Below.alloc ?_ (by first | (simp; done) | (simp; omega) | omega) _ | refine Below.setCell ?_ (by first | (simp; done) | (simp; omega) | omega) _))⟩
      · go_wp2_with (fail)
        go_ret
        exact ⟨rfl, (by repeat (first | exact Below.refl _ _ | assumption | refine Below.drew ?_ | refine Below.alloc ?_ (by first | (simp; done) | (simp; omega) | omega) _ | refine Below.setCell ?_ (by first | (simp; done) | (simp; omega) | omega) _))⟩
    · go_wp2_with (fail)
      go_ret
      exact ⟨rfl, (by repeat (first | exact Below.refl _ _ | assumption | refine Below.drew ?_ | refine Below.alloc ?_ (by first | (simp; done) | (simp; omega) | omega) _ | refine Below.setCell ?_ (by first | (simp; done) | (simp; omega) | omega) _))⟩
  · go_wp2_with (fail)
    go_ret
    exact ⟨rfl, (by repeat (first | exact Below.refl _ _ | assumption | refine Below.drew ?_ | refine Below.alloc ?_ (by first | (simp; done) | (simp; omega) | omega) _ | refine Below.setCell ?_ (by first | (simp; done) | (simp; omega) | omega) _))⟩
end Go.Proofs.YtakiicbcephbhaaDoor
