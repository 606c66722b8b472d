/- Lemmas: audit: Met; The document's Met (chapter 27); law 27: judges; law 27: ran. -/
import Derived.Test.YtlaflbepidkmnaaProg
import Derived.Test.YtlaflbepidkmnaaZd13
import Derived.Deep.Cut
import Derived.Lib.Hide
import Derived.OwnWalk
import Derived.BigQuiet
/- Au7 -/
namespace Go.Proofs.Ytlaflbepidkmnaa
open Go.RowKit
attribute [local go_sem] setCell_twice ByteArray.toList_eq str_list Ext.alloc Ext.drew
set_option linter.unusedSimpArgs false
set_option linter.unusedVariables false
set_option maxRecDepth 100000
set_option maxHeartbeats 1600000
attribute [local irreducible] Calls

theorem metB_snoc {r : List Int} {L : List Ev} {n : Int} {k : Nat} : (List.range (k + 1)).all (metAt r L n) = ((List.range k).all (metAt r L n) && metAt r L n k) := by
  rw [List.range_succ, List.all_append]; simp
theorem metB_not {r : List Int} {L : List Ev} {n : Int} {k : Nat} (hk : k < L.length) (h : metAt r L n k = false) : metB r L n = false := by
  unfold metB
  rw [List.all_eq_false]
  exact ⟨k, List.mem_range.2 hk, by simp [h]⟩
/-- events of jobs are of tasks that there are -/
def jobIn (n : Nat) (L : List Ev) : Prop := ∀ e ∈ L, e.kind = 1 ∨ e.kind = 8 ∨ e.kind = 9 → 0 ≤ e.task ∧ e.task < n
theorem endB_iff {e : Ev} : endB e = true ↔ e.kind = 8 ∨ e.kind = 9 := by simp [endB]
theorem auMet_any (vr va : Value) (r : List Int) (L : List Ev) (n : Int) (w : World) (hr : Ints w vr r) (hrb : ∀ x ∈ r, 0 ≤ x ∧ x ≤ 1099511627776) (ha : Evs w va L) (hl : L.length ≤ 1000000) (hin : ∀ e ∈ L, evIn e) (hp : jobIn r.length L) :
    Calls Try.prog 13 #[vr, va, .int .i64 n] w fun x w' => x = .returned (.bool (metB r L n)) ∧ Ext w w' := by
  obtain ⟨Ae, ce, rfl, hce1, hce2⟩ := ha.form
  obtain ⟨Ar, cr, rfl, hcr1, hcr2, _⟩ := id hr
  unfold maxLen at hce2 hcr2
  obtain ⟨res, hres⟩ : ∃ res, metB r L n = res := ⟨_, rfl⟩
  rw [hres]
  have HR := Lib.hid hres
  have HI := Lib.hid hr
  have HE := Lib.hid ha
  have HIN := Lib.hid hin
  have HP := Lib.hid hp
  have HRB := Lib.hid hrb
  clear ha hin hp hres hr hrb
  go_enter Try.func13, Try.ntmps13
  go_wp2_with (fail)
  go_loopw [7, 8, 11] (fun _ _ i wr => ∃ k : Nat, k ≤ L.length ∧ i = .int .i64 k ∧ Hid ((List.range k).all (metAt r L n) = true) ∧ Ext w wr) (fun _ _ i _ => L.length - (intOf i).toNat)
  case atStart => exact ⟨0, Nat.zero_le _, rfl, Lib.hid rfl, Ext.refl w⟩
  case round =>
    obtain ⟨k, hk, rfl, hall, hXk⟩ := hrel
    by_cases hlt : k < L.length
    · have hin := HIN.out _ (List.getElem_mem hlt)
      have hpin := HP.out _ (List.getElem_mem hlt)
      have hfs := metB_snoc (r := r) (L := L) (n := n) (k := k)
      have hno := fun h => metB_not (r := r) (n := n) hlt h
      have hme : metAt r L n k = if L[k].kind = 1 then (decide (n < L[k].tick + r.getD L[k].task.toNat 0) || doneA L[k].task (L.drop (k + 1))) else if endB L[k] = true then decide (L[k].n ≤ r.getD L[k].task.toNat 0) else true := by
        unfold metAt; rw [evAt_in hlt]
      obtain ⟨b, o, rfl, hx⟩ := HE.out.at hlt
      obtain ⟨vd, hdr, hsl⟩ := Evs.cutAt HE.out (k + 1) hlt
      push_cast at hsl
      obtain ⟨x0, x1, x2, x3⟩ := hx wr hXk
      rw [evAt_in hlt] at x0 x1 x2 x3
      have HIN2 := Lib.hid hin
      have HPIN := Lib.hid hpin
      have HFS := Lib.hid hfs
      have HNO := Lib.hid hno
      have HME := Lib.hid hme
      have HDR := Lib.hid hdr
      clear hin hpin hfs hno hme hdr hx
      generalize L[k] = e at *
      generalize hRk : L.drop (k + 1) = R at *
      generalize metAt r L n k = mk at *
      clear hRk
      go_upto_region 4 with (fail)
      have hX5 := (Ext.refl wr).alloc (.cells #[.int .i64 e.tick, .int .i64 e.kind, .int .i64 e.task, .int .i64 e.n] 60)
      have hB5 := Blk.new wr #[.int .i64 e.tick, .int .i64 e.kind, .int .i64 e.task, .int .i64 e.n] 60
      generalize wr.alloc _ = W5 at hX5 hB5 ⊢
      generalize wr.heap.size = ge at hB5 ⊢
      have hce := hB5.under
      have hce0 := hB5.cell
      have HBE := Lib.hid hB5
      clear x0 x1 x2 x3 hB5
      have hEnds := fun w' (hx : Ext W5 w') => callE' hx (ends_au e w')
      have hw1 : IntKind.i64.wrap ((k : Int) + 1) = ((k + 1 : Nat) : Int) := by rw [IntKind.wrap_i64]; omega
      have hk1 : k + 1 ≤ L.length := hlt
      have hX0 := hXk.trans hX5
      cases h1 : (e.kind == 1) with
      | true =>
        obtain ⟨tick, kind, task, nn⟩ := e
        dsimp only at *
        obtain rfl := eq_of_beq h1
        have HK := Lib.hid (rfl : (1 : Int) = 1)
        obtain ⟨q1, q2⟩ := HPIN.out (.inl HK.out)
        obtain ⟨i, rfl⟩ : ∃ i : Nat, task = (i : Int) := ⟨task.toNat, by omega⟩
        have hi : i < r.length := by omega
        have hl0 : decide ((i : Int) < 0) = false := decide_eq_false (by omega)
        have hl1 : decide (r.length ≤ i) = false := decide_eq_false (by omega)
        obtain ⟨b2, o2, rfl, hxi⟩ := (HI.out.ext hX0).at hi
        have hrb := HRB.out _ (List.getElem_mem hi)
        have hm2 := HME.out
        rw [if_pos HK.out, Int.toNat_natCast, getD_at hi] at hm2
        have hEn8 : endB ⟨tick, 1, i, nn⟩ = false := by
          cases h : endB ⟨tick, 1, i, nn⟩ with
          | false => rfl
          | true =>
            have h := endB_iff.1 h
            dsimp only at h
            omega
        rw [hEn8] at hEnds
        generalize r[i] = ri at *
        have hMet := fun w' (hx : Ext W5 w') => callE' hx (isMet_au ⟨tick, 1, i, nn⟩ ri n vd R w' (HDR.out.ext (hX0.trans hx)) HIN2.out hrb)
        unfold evA at hMet hEnds
        dsimp only at hMet hEnds
        rw [← hm2] at hMet
        have HM2 := Lib.hid hm2
        clear hm2 hEn8
        go_upto_region 5 with (fail)
        refine wp_region_all (S := Ext W5) (by kernel_rfl) (by kernel_rfl) (Ext.refl W5).drew (fun K hK => ?_); (repeat (first | (apply hO_and (p := false) (q := true); (· rfl); (· rfl); (· rfl); (· rfl); simp only [Act.put, List.setIfInBounds_toArray, List.set_cons_zero, List.set_cons_succ]) | (apply hO_or (p := true) (q := true); (· rfl); (· rfl); (· rfl); (· rfl); simp only [Act.put, List.setIfInBounds_toArray, List.set_cons_zero, List.set_cons_succ]) | (apply hO_and; (· rfl); (· rfl); (· rfl); (· rfl); simp only [Act.put, List.setIfInBounds_toArray, List.set_cons_zero, List.set_cons_succ]) | (apply hO_or; (· rfl); (· rfl); (· rfl); (· rfl); simp only [Act.put, List.setIfInBounds_toArray, List.set_cons_zero, List.set_cons_succ]) | (apply hO_off; (· rfl); (· rfl); simp only [Act.put, List.setIfInBounds_toArray, List.set_cons_zero, List.set_cons_succ]) | (apply hO_un; (· rfl); (· rfl); simp only [Act.put, List.setIfInBounds_toArray, List.set_cons_zero, List.set_cons_succ]) | (apply hO_val; (· intro w hS; go_simp; with_reducible rfl); (· rfl); simp only [Act.put, List.setIfInBounds_toArray, List.set_cons_zero, List.set_cons_succ]) | (apply hO_call; (· rfl); (· intro w hS; go_simp; exact ⟨rfl, rfl⟩); (· intro w hS; exact hEnds _ hS); simp only [Act.put, List.setIfInBounds_toArray, List.set_cons_zero, List.set_cons_succ]) | (apply hO_if; (· rfl); (· rfl); (· intro hif w hS; go_simp; with_reducible rfl); simp only [Act.put, List.setIfInBounds_toArray, List.set_cons_zero, List.set_cons_succ]) | (apply hO_ifcall; (· rfl); (· rfl); (· intro hif w hS; go_simp; exact ⟨rfl, rfl⟩); (· intro hif w hS; exact hEnds _ hS); simp only [Act.put, List.setIfInBounds_toArray, List.set_cons_zero, List.set_cons_succ]))); refine hO_nil ?_; refine hK _ ?_; clear hK K
        intro w6 hx6
        have hc6 := (HBE.out.ext hx6).cell
        clear hce0
        go_upto_region 7 with (fail)
        refine wp_region_all (S := Ext W5) (by kernel_rfl) (by kernel_rfl) hx6.drew (fun K hK => ?_); (repeat (first | (apply hO_and (p := false) (q := true); (· rfl); (· rfl); (· rfl); (· rfl); simp only [Act.put, List.setIfInBounds_toArray, List.set_cons_zero, List.set_cons_succ]) | (apply hO_or (p := true) (q := true); (· rfl); (· rfl); (· rfl); (· rfl); simp only [Act.put, List.setIfInBounds_toArray, List.set_cons_zero, List.set_cons_succ]) | (apply hO_and; (· rfl); (· rfl); (· rfl); (· rfl); simp only [Act.put, List.setIfInBounds_toArray, List.set_cons_zero, List.set_cons_succ]) | (apply hO_or; (· rfl); (· rfl); (· rfl); (· rfl); simp only [Act.put, List.setIfInBounds_toArray, List.set_cons_zero, List.set_cons_succ]) | (apply hO_off; (· rfl); (· rfl); simp only [Act.put, List.setIfInBounds_toArray, List.set_cons_zero, List.set_cons_succ]) | (apply hO_un; (· rfl); (· rfl); simp only [Act.put, List.setIfInBounds_toArray, List.set_cons_zero, List.set_cons_succ]) | (apply hO_val; (· intro w hS; go_simp; with_reducible rfl); (· rfl); simp only [Act.put, List.setIfInBounds_toArray, List.set_cons_zero, List.set_cons_succ]) | (apply hO_call; (· rfl); (· intro w hS; go_simp; exact ⟨rfl, rfl⟩); (· intro w hS; exact hMet _ hS); simp only [Act.put, List.setIfInBounds_toArray, List.set_cons_zero, List.set_cons_succ]) | (apply hO_if; (· rfl); (· rfl); (· intro hif w hS; go_simp; with_reducible rfl); simp only [Act.put, List.setIfInBounds_toArray, List.set_cons_zero, List.set_cons_succ]) | (apply hO_ifcall; (· rfl); (· rfl); (· intro hif w hS; go_simp; exact ⟨rfl, rfl⟩); (· intro hif w hS; exact hMet _ hS); simp only [Act.put, List.setIfInBounds_toArray, List.set_cons_zero, List.set_cons_succ]))); refine hO_nil ?_; refine hK _ ?_; clear hK K
        intro w7 hx7
        clear hMet hEnds hc6
        cases mk with
        | false =>
          have hres := HNO.out rfl
          rw [HR.out] at hres
          subst hres
          go_wp2_with (fail)
          go_ret
          exact ⟨rfl, hX0.trans hx7⟩
        | true =>
          have hall2 := Lib.hid (show (List.range (k + 1)).all (metAt r L n) = true by rw [HFS.out, hall.out]; rfl)
          go_wp2_with (fail)
          exact ⟨⟨k + 1, hlt, rfl, hall2, hX0.trans hx7⟩, by simp [intOf]; omega⟩
      | false =>
        have HK := Lib.hid (show e.kind ≠ 1 by simpa using h1)
        have hm2 := HME.out
        rw [if_neg HK.out] at hm2
        cases hE : endB e with
        | false =>
          rw [hE] at hEnds
          rw [hE, if_neg (by simp)] at hm2
          subst hm2
          have hall2 := Lib.hid (show (List.range (k + 1)).all (metAt r L n) = true by rw [HFS.out, hall.out]; rfl)
          have HEN := Lib.hid hEnds
          clear hEnds
          go_wp2_with (fail)
          refine (HEN.out W5 (Ext.refl W5)).mono ?_
          rintro _ w6 ⟨rfl, hx6⟩
          go_wp2_with (fail)
          exact ⟨⟨k + 1, hlt, rfl, hall2, hX0.trans hx6⟩, by simp [intOf]; omega⟩
        | true =>
          rw [hE] at hEnds
          rw [hE, if_pos rfl] at hm2
          have HE8 := Lib.hid (endB_iff.1 hE)
          obtain ⟨tick, kind, task, nn⟩ := e
          dsimp only at *
          obtain ⟨q1, q2⟩ := HPIN.out (.inr HE8.out)
          obtain ⟨i, rfl⟩ : ∃ i : Nat, task = (i : Int) := ⟨task.toNat, by omega⟩
          have hi : i < r.length := by omega
          have hl0 : decide ((i : Int) < 0) = false := decide_eq_false (by omega)
          have hl1 : decide (r.length ≤ i) = false := decide_eq_false (by omega)
          obtain ⟨b2, o2, rfl, hxi⟩ := (HI.out.ext hX0).at hi
          rw [Int.toNat_natCast, getD_at hi] at hm2
          generalize r[i] = ri at *
          have hm3 : decide (ri < nn) = !mk := by
            rw [hm2]
            by_cases h : nn ≤ ri
            · rw [decide_eq_true h, decide_eq_false (by omega)]; rfl
            · rw [decide_eq_false h, decide_eq_true (by omega)]; rfl
          have HEN := Lib.hid hEnds
          unfold evA at hEnds
          dsimp only at hEnds
          clear hm2
          go_wp2_with (fail)
          refine (HEN.out W5 (Ext.refl W5)).mono ?_
          rintro _ w5 ⟨rfl, hx5⟩
          have hc5 := (HBE.out.ext hx5).cell
          clear hce0
          go_upto_region 5 with (fail)
          refine wp_region_all (S := Ext W5) (by kernel_rfl) (by kernel_rfl) hx5.drew (fun K hK => ?_); (repeat (first | (apply hO_and (p := false) (q := true); (· rfl); (· rfl); (· rfl); (· rfl); simp only [Act.put, List.setIfInBounds_toArray, List.set_cons_zero, List.set_cons_succ]) | (apply hO_or (p := true) (q := true); (· rfl); (· rfl); (· rfl); (· rfl); simp only [Act.put, List.setIfInBounds_toArray, List.set_cons_zero, List.set_cons_succ]) | (apply hO_and; (· rfl); (· rfl); (· rfl); (· rfl); simp only [Act.put, List.setIfInBounds_toArray, List.set_cons_zero, List.set_cons_succ]) | (apply hO_or; (· rfl); (· rfl); (· rfl); (· rfl); simp only [Act.put, List.setIfInBounds_toArray, List.set_cons_zero, List.set_cons_succ]) | (apply hO_off; (· rfl); (· rfl); simp only [Act.put, List.setIfInBounds_toArray, List.set_cons_zero, List.set_cons_succ]) | (apply hO_un; (· rfl); (· rfl); simp only [Act.put, List.setIfInBounds_toArray, List.set_cons_zero, List.set_cons_succ]) | (apply hO_val; (· intro w hS; go_simp; with_reducible rfl); (· rfl); simp only [Act.put, List.setIfInBounds_toArray, List.set_cons_zero, List.set_cons_succ]) | (apply hO_call; (· rfl); (· intro w hS; go_simp; exact ⟨rfl, rfl⟩); (· intro w hS; exact hEnds _ hS); simp only [Act.put, List.setIfInBounds_toArray, List.set_cons_zero, List.set_cons_succ]) | (apply hO_if; (· rfl); (· rfl); (· intro hif w hS; go_simp; with_reducible rfl); simp only [Act.put, List.setIfInBounds_toArray, List.set_cons_zero, List.set_cons_succ]) | (apply hO_ifcall; (· rfl); (· rfl); (· intro hif w hS; go_simp; exact ⟨rfl, rfl⟩); (· intro hif w hS; exact hEnds _ hS); simp only [Act.put, List.setIfInBounds_toArray, List.set_cons_zero, List.set_cons_succ]))); refine hO_nil ?_; refine hK _ ?_; clear hK K
          intro w6 hx6
          have hc6 := (HBE.out.ext hx6).cell
          clear hc5
          cases mk with
          | false =>
            have hres := HNO.out rfl
            rw [HR.out] at hres
            subst hres
            clear hEnds
            go_wp2_with (fail)
            go_ret
            exact ⟨rfl, hX0.trans hx6⟩
          | true =>
            have hall2 := Lib.hid (show (List.range (k + 1)).all (metAt r L n) = true by rw [HFS.out, hall.out]; rfl)
            clear hEnds hm3
            go_upto_region 7 with (fail)
            refine wp_region_all (S := Ext W5) (by kernel_rfl) (by kernel_rfl) hx6.drew (fun K hK => ?_); (repeat (first | (apply hO_and (p := false) (q := true); (· rfl); (· rfl); (· rfl); (· rfl); simp only [Act.put, List.setIfInBounds_toArray, List.set_cons_zero, List.set_cons_succ]) | (apply hO_or (p := true) (q := true); (· rfl); (· rfl); (· rfl); (· rfl); simp only [Act.put, List.setIfInBounds_toArray, List.set_cons_zero, List.set_cons_succ]) | (apply hO_and; (· rfl); (· rfl); (· rfl); (· rfl); simp only [Act.put, List.setIfInBounds_toArray, List.set_cons_zero, List.set_cons_succ]) | (apply hO_or; (· rfl); (· rfl); (· rfl); (· rfl); simp only [Act.put, List.setIfInBounds_toArray, List.set_cons_zero, List.set_cons_succ]) | (apply hO_off; (· rfl); (· rfl); simp only [Act.put, List.setIfInBounds_toArray, List.set_cons_zero, List.set_cons_succ]) | (apply hO_un; (· rfl); (· rfl); simp only [Act.put, List.setIfInBounds_toArray, List.set_cons_zero, List.set_cons_succ]) | (apply hO_val; (· intro w hS; go_simp; with_reducible rfl); (· rfl); simp only [Act.put, List.setIfInBounds_toArray, List.set_cons_zero, List.set_cons_succ]) | (apply hO_call; (· rfl); (· intro w hS; go_simp; exact ⟨rfl, rfl⟩); (· intro w hS; fail); simp only [Act.put, List.setIfInBounds_toArray, List.set_cons_zero, List.set_cons_succ]) | (apply hO_if; (· rfl); (· rfl); (· intro hif w hS; go_simp; with_reducible rfl); simp only [Act.put, List.setIfInBounds_toArray, List.set_cons_zero, List.set_cons_succ]) | (apply hO_ifcall; (· rfl); (· rfl); (· intro hif w hS; go_simp; exact ⟨rfl, rfl⟩); (· intro hif w hS; fail); simp only [Act.put, List.setIfInBounds_toArray, List.set_cons_zero, List.set_cons_succ]))); refine hO_nil ?_; refine hK _ ?_; clear hK K
            intro w7 hx7
            go_wp2_with (fail)
            exact ⟨⟨k + 1, hlt, rfl, hall2, hX0.trans hx7⟩, by simp [intOf]; omega⟩
    · have hke : k = L.length := by omega
      subst hke
      have hres : res = true := by rw [← HR.out]; exact hall.out
      subst hres
      go_wp2_with (fail)
      go_ret
      exact ⟨rfl, hXk⟩
end Go.Proofs.Ytlaflbepidkmnaa
/- Au8 -/
namespace Go.Proofs.Ytlaflbepidkmnaa
open Go.RowKit
attribute [local go_sem] setCell_twice ByteArray.toList_eq str_list Ext.alloc Ext.drew
set_option linter.unusedSimpArgs false
set_option linter.unusedVariables false
set_option maxRecDepth 100000
set_option maxHeartbeats 1600000
attribute [local irreducible] Calls

theorem doneA_cons (t : Int) (x : Ev) (rs : List Ev) : doneA t (x :: rs) = if waitB t x = true then endB x else doneA t rs := by
  unfold doneA idxE
  rw [List.findIdx?_cons]
  by_cases h : waitB t x = true
  · rw [if_pos h, if_pos h]; simp [evAt]
  · rw [if_neg h, if_neg h]
    cases rs.findIdx? (waitB t) with
    | none => rfl
    | some i =>
      simp only [Option.map_some, Int.toNat_natCast]
      have e1 : decide ((0 : Int) ≤ (i + 1 : Nat)) = true := decide_eq_true (by omega)
      have e2 : decide ((0 : Int) ≤ (i : Nat)) = true := decide_eq_true (by omega)
      rw [e1, e2]
      rfl
def admB (t : Int) (x : Ev) : Bool := decide (x.kind = 1) && decide (x.task = t)
def finB (t : Int) (x : Ev) : Bool := decide (x.task = t) && endB x
theorem doneA_at (t : Int) : ∀ (rest : List Ev) (j : Nat), (rest.take j).all (fun x => !admB t x) = true → (j = rest.length ∨ ∃ h : j < rest.length, admB t rest[j] = true) → doneA t rest = (rest.take j).any (finB t)
  | [], j, _, _ => by simp [doneA, idxE]
  | x :: rs, 0, _, h => by
    obtain ⟨h1, h2⟩ := h.resolve_left (by simp)
    have h2 : admB t x = true := h2
    simp only [admB, Bool.and_eq_true, decide_eq_true_eq] at h2
    rw [doneA_cons, if_pos (by simp [waitB, h2.1, h2.2])]
    simp [endB, h2.1]
  | x :: rs, j + 1, ha, h => by
    rw [List.take_succ_cons, List.all_cons, Bool.and_eq_true] at ha
    have hx : ¬ (x.kind = 1 ∧ x.task = t) := fun ⟨a, b⟩ => by have := ha.1; simp [admB, a, b] at this
    have ih := doneA_at t rs j ha.2 (h.imp (fun e => by simpa using e) (fun ⟨h1, h2⟩ => ⟨Nat.lt_of_succ_lt_succ h1, h2⟩))
    rw [doneA_cons, List.take_succ_cons, List.any_cons, ih]
    unfold waitB finB
    by_cases ht : x.task = t
    · have hk : x.kind ≠ 1 := fun h => hx ⟨h, ht⟩
      cases endB x <;> simp [ht, hk]
    · simp [ht]
theorem met27_any (vr va : Value) (r : List Int) (L : List Ev) (n : Int) (w : World) (hr : Ints w vr r) (hrb : ∀ x ∈ r, 0 ≤ x ∧ x ≤ 1099511627776) (ha : Evs w va L) (hl : L.length ≤ 1000000) (hin : ∀ e ∈ L, evIn e) (hp : jobIn r.length L) :
    Calls Try.prog 14 #[vr, va, .int .i64 n] w fun x w' => x = .returned (.bool (metB r L n)) ∧ Ext w w' := by
  obtain ⟨Ae, ce, rfl, hce1, hce2⟩ := ha.form
  obtain ⟨Ar, cr, rfl, hcr1, hcr2, _⟩ := id hr
  unfold maxLen at hce2 hcr2
  obtain ⟨res, hres⟩ : ∃ res, metB r L n = res := ⟨_, rfl⟩
  rw [hres]
  have HR := Lib.hid hres
  have HI := Lib.hid hr
  have HE := Lib.hid ha
  have HIN := Lib.hid hin
  have HP := Lib.hid hp
  have HRB := Lib.hid hrb
  clear ha hin hp hres hr hrb
  go_enter Try.func14, Try.ntmps14
  go_wp2_with (fail)
  go_loopw [7, 8, 9, 10] (fun i _ _ _ wr => ∃ k : Nat, k ≤ L.length ∧ i = .int .i64 k ∧ Hid ((List.range k).all (metAt r L n) = true) ∧ Ext w wr) (fun i _ _ _ _ => L.length - (intOf i).toNat)
  case atStart => exact ⟨0, Nat.zero_le _, rfl, Lib.hid rfl, Ext.refl w⟩
  case round =>
    obtain ⟨k, hk, rfl, hall, hXk⟩ := hrel
    by_cases hlt : k < L.length
    · have hin := HIN.out _ (List.getElem_mem hlt)
      have hpin := HP.out _ (List.getElem_mem hlt)
      have hfs := metB_snoc (r := r) (L := L) (n := n) (k := k)
      have hno := fun h => metB_not (r := r) (n := n) hlt h
      have hme : metAt r L n k = if L[k].kind = 1 then (decide (n < L[k].tick + r.getD L[k].task.toNat 0) || doneA L[k].task (L.drop (k + 1))) else if endB L[k] = true then decide (L[k].n ≤ r.getD L[k].task.toNat 0) else true := by
        unfold metAt; rw [evAt_in hlt]
      have hdl : (L.drop (k + 1)).length = L.length - (k + 1) := List.length_drop
      have hda : ∀ j, j < (L.drop (k + 1)).length → evAt (L.drop (k + 1)) j = evAt L (k + 1 + j) := fun j hj => by
        rw [evAt_in hj, evAt_in (by rw [List.length_drop] at hj; omega), List.getElem_drop]
      obtain ⟨b, o, rfl, hx⟩ := HE.out.at hlt
      obtain ⟨x0, x1, x2, x3⟩ := hx wr hXk
      rw [evAt_in hlt] at x0 x1 x2 x3
      have HIN2 := Lib.hid hin
      have HPIN := Lib.hid hpin
      have HFS := Lib.hid hfs
      have HNO := Lib.hid hno
      have HME := Lib.hid hme
      have HDL := Lib.hid hdl
      have HDA := Lib.hid hda
      clear hin hpin hfs hno hme hdl hda hx
      generalize L[k] = e at *
      generalize L.drop (k + 1) = R at *
      generalize metAt r L n k = mk at *
      go_upto_region 5 with (fail)
      have hX5 := (Ext.refl wr).alloc (.cells #[.int .i64 e.tick, .int .i64 e.kind, .int .i64 e.task, .int .i64 e.n] 60)
      have hB5 := Blk.new wr #[.int .i64 e.tick, .int .i64 e.kind, .int .i64 e.task, .int .i64 e.n] 60
      generalize wr.alloc _ = W5 at hX5 hB5 ⊢
      generalize wr.heap.size = ge at hB5 ⊢
      have hce := hB5.under
      have hce0 := hB5.cell
      have HBE := Lib.hid hB5
      clear x0 x1 x2 x3 hB5
      have hX0 := hXk.trans hX5
      by_cases hJ : e.kind = 1 ∨ e.kind = 8 ∨ e.kind = 9
      · obtain ⟨tick, kind, task, nn⟩ := e
        dsimp only at *
        obtain ⟨q1, q2⟩ := HPIN.out hJ
        obtain ⟨i, rfl⟩ : ∃ i : Nat, task = (i : Int) := ⟨task.toNat, by omega⟩
        have hi : i < r.length := by omega
        have hl0 : decide ((i : Int) < 0) = false := decide_eq_false (by omega)
        have hl1 : decide (r.length ≤ i) = false := decide_eq_false (by omega)
        obtain ⟨b2, o2, rfl, hxi⟩ := (HI.out.ext hX0).at hi
        have hrb := HRB.out _ (List.getElem_mem hi)
        have hm2 := HME.out
        rw [Int.toNat_natCast, getD_at hi] at hm2
        generalize r[i] = ri at *
        have hw1 : IntKind.i64.wrap (tick + ri) = tick + ri := by have := HIN2.out; unfold evIn at this; dsimp only at this; rw [IntKind.wrap_i64]; omega
        have hw2 : wrap64 (tick + ri) = tick + ri := by have := HIN2.out; unfold evIn at this; dsimp only at this; unfold wrap64; omega
        cases h1 : (kind == 1) with
        | false =>
          have hk1 : kind ≠ 1 := by simpa using h1
          have k1n : (kind != 1) = true := by simp; omega
          have hE8 : kind = 8 ∨ kind = 9 := by omega
          have HEB : endB ⟨tick, kind, i, nn⟩ = true := endB_iff.2 hE8
          have k89 : (kind == 8 || kind == 9) = true := by simpa using hE8
          rw [if_neg hk1, if_pos HEB] at hm2
          have hm3 : decide (ri < nn) = !mk := by
            rw [hm2]
            by_cases h : nn ≤ ri
            · rw [decide_eq_true h, decide_eq_false (by omega)]; rfl
            · rw [decide_eq_false h, decide_eq_true (by omega)]; rfl
          clear hm2 hE8 HEB hJ hk1
          go_upto_region 6 with (fail)
          refine wp_region_all (S := Ext W5) (by kernel_rfl) (by kernel_rfl) (Ext.refl W5).drew (fun K hK => ?_); (repeat (first | (apply hO_and (p := false) (q := true); (· rfl); (· rfl); (· rfl); (· rfl); simp only [Act.put, List.setIfInBounds_toArray, List.set_cons_zero, List.set_cons_succ]) | (apply hO_or (p := true) (q := true); (· rfl); (· rfl); (· rfl); (· rfl); simp only [Act.put, List.setIfInBounds_toArray, List.set_cons_zero, List.set_cons_succ]) | (apply hO_and; (· rfl); (· rfl); (· rfl); (· rfl); simp only [Act.put, List.setIfInBounds_toArray, List.set_cons_zero, List.set_cons_succ]) | (apply hO_or; (· rfl); (· rfl); (· rfl); (· rfl); simp only [Act.put, List.setIfInBounds_toArray, List.set_cons_zero, List.set_cons_succ]) | (apply hO_off; (· rfl); (· rfl); simp only [Act.put, List.setIfInBounds_toArray, List.set_cons_zero, List.set_cons_succ]) | (apply hO_un; (· rfl); (· rfl); simp only [Act.put, List.setIfInBounds_toArray, List.set_cons_zero, List.set_cons_succ]) | (apply hO_val; (· intro w hS; go_simp; with_reducible rfl); (· rfl); simp only [Act.put, List.setIfInBounds_toArray, List.set_cons_zero, List.set_cons_succ]) | (apply hO_call; (· rfl); (· intro w hS; go_simp; exact ⟨rfl, rfl⟩); (· intro w hS; fail); simp only [Act.put, List.setIfInBounds_toArray, List.set_cons_zero, List.set_cons_succ]) | (apply hO_if; (· rfl); (· rfl); (· intro hif w hS; go_simp; with_reducible rfl); simp only [Act.put, List.setIfInBounds_toArray, List.set_cons_zero, List.set_cons_succ]) | (apply hO_ifcall; (· rfl); (· rfl); (· intro hif w hS; go_simp; exact ⟨rfl, rfl⟩); (· intro hif w hS; fail); simp only [Act.put, List.setIfInBounds_toArray, List.set_cons_zero, List.set_cons_succ]))); refine hO_nil ?_; refine hK _ ?_; clear hK K
          intro w6 hx6
          have hc6 := (HBE.out.ext hx6).cell
          clear hce0
          cases mk with
          | false =>
            have hres := HNO.out rfl
            rw [HR.out] at hres
            subst hres
            go_wp2_with (fail)
            go_ret
            exact ⟨rfl, hX0.trans hx6⟩
          | true =>
            have hall2 := Lib.hid (show (List.range (k + 1)).all (metAt r L n) = true by rw [HFS.out, hall.out]; rfl)
            clear hm3
            go_upto_region 8 with (fail)
            refine wp_region_all (S := Ext W5) (by kernel_rfl) (by kernel_rfl) hx6.drew (fun K hK => ?_); (repeat (first | (apply hO_and (p := false) (q := true); (· rfl); (· rfl); (· rfl); (· rfl); simp only [Act.put, List.setIfInBounds_toArray, List.set_cons_zero, List.set_cons_succ]) | (apply hO_or (p := true) (q := true); (· rfl); (· rfl); (· rfl); (· rfl); simp only [Act.put, List.setIfInBounds_toArray, List.set_cons_zero, List.set_cons_succ]) | (apply hO_and; (· rfl); (· rfl); (· rfl); (· rfl); simp only [Act.put, List.setIfInBounds_toArray, List.set_cons_zero, List.set_cons_succ]) | (apply hO_or; (· rfl); (· rfl); (· rfl); (· rfl); simp only [Act.put, List.setIfInBounds_toArray, List.set_cons_zero, List.set_cons_succ]) | (apply hO_off; (· rfl); (· rfl); simp only [Act.put, List.setIfInBounds_toArray, List.set_cons_zero, List.set_cons_succ]) | (apply hO_un; (· rfl); (· rfl); simp only [Act.put, List.setIfInBounds_toArray, List.set_cons_zero, List.set_cons_succ]) | (apply hO_val; (· intro w hS; go_simp; with_reducible rfl); (· rfl); simp only [Act.put, List.setIfInBounds_toArray, List.set_cons_zero, List.set_cons_succ]) | (apply hO_call; (· rfl); (· intro w hS; go_simp; exact ⟨rfl, rfl⟩); (· intro w hS; fail); simp only [Act.put, List.setIfInBounds_toArray, List.set_cons_zero, List.set_cons_succ]) | (apply hO_if; (· rfl); (· rfl); (· intro hif w hS; go_simp; with_reducible rfl); simp only [Act.put, List.setIfInBounds_toArray, List.set_cons_zero, List.set_cons_succ]) | (apply hO_ifcall; (· rfl); (· rfl); (· intro hif w hS; go_simp; exact ⟨rfl, rfl⟩); (· intro hif w hS; fail); simp only [Act.put, List.setIfInBounds_toArray, List.set_cons_zero, List.set_cons_succ]))); refine hO_nil ?_; refine hK _ ?_; clear hK K
            intro w7 hx7
            go_wp2_with (fail)
            exact ⟨⟨k + 1, hlt, rfl, hall2, hX0.trans hx7⟩, by simp [intOf]; omega⟩
        | true =>
          obtain rfl := eq_of_beq h1
          rw [if_pos rfl] at hm2
          clear hJ
          go_upto_region 6 with (fail)
          refine wp_region_all (S := Ext W5) (by kernel_rfl) (by kernel_rfl) (Ext.refl W5).drew (fun K hK => ?_); (repeat (first | (apply hO_and (p := false) (q := true); (· rfl); (· rfl); (· rfl); (· rfl); simp only [Act.put, List.setIfInBounds_toArray, List.set_cons_zero, List.set_cons_succ]) | (apply hO_or (p := true) (q := true); (· rfl); (· rfl); (· rfl); (· rfl); simp only [Act.put, List.setIfInBounds_toArray, List.set_cons_zero, List.set_cons_succ]) | (apply hO_and; (· rfl); (· rfl); (· rfl); (· rfl); simp only [Act.put, List.setIfInBounds_toArray, List.set_cons_zero, List.set_cons_succ]) | (apply hO_or; (· rfl); (· rfl); (· rfl); (· rfl); simp only [Act.put, List.setIfInBounds_toArray, List.set_cons_zero, List.set_cons_succ]) | (apply hO_off; (· rfl); (· rfl); simp only [Act.put, List.setIfInBounds_toArray, List.set_cons_zero, List.set_cons_succ]) | (apply hO_un; (· rfl); (· rfl); simp only [Act.put, List.setIfInBounds_toArray, List.set_cons_zero, List.set_cons_succ]) | (apply hO_val; (· intro w hS; go_simp; with_reducible rfl); (· rfl); simp only [Act.put, List.setIfInBounds_toArray, List.set_cons_zero, List.set_cons_succ]) | (apply hO_call; (· rfl); (· intro w hS; go_simp; exact ⟨rfl, rfl⟩); (· intro w hS; fail); simp only [Act.put, List.setIfInBounds_toArray, List.set_cons_zero, List.set_cons_succ]) | (apply hO_if; (· rfl); (· rfl); (· intro hif w hS; go_simp; with_reducible rfl); simp only [Act.put, List.setIfInBounds_toArray, List.set_cons_zero, List.set_cons_succ]) | (apply hO_ifcall; (· rfl); (· rfl); (· intro hif w hS; go_simp; exact ⟨rfl, rfl⟩); (· intro hif w hS; fail); simp only [Act.put, List.setIfInBounds_toArray, List.set_cons_zero, List.set_cons_succ]))); refine hO_nil ?_; refine hK _ ?_; clear hK K
          intro w6 hx6
          have hc6 := (HBE.out.ext hx6).cell
          clear hce0
          go_upto_region 8 with (fail)
          refine wp_region_all (S := Ext W5) (by kernel_rfl) (by kernel_rfl) hx6.drew (fun K hK => ?_); (repeat (first | (apply hO_and (p := false) (q := true); (· rfl); (· rfl); (· rfl); (· rfl); simp only [Act.put, List.setIfInBounds_toArray, List.set_cons_zero, List.set_cons_succ]) | (apply hO_or (p := true) (q := true); (· rfl); (· rfl); (· rfl); (· rfl); simp only [Act.put, List.setIfInBounds_toArray, List.set_cons_zero, List.set_cons_succ]) | (apply hO_and; (· rfl); (· rfl); (· rfl); (· rfl); simp only [Act.put, List.setIfInBounds_toArray, List.set_cons_zero, List.set_cons_succ]) | (apply hO_or; (· rfl); (· rfl); (· rfl); (· rfl); simp only [Act.put, List.setIfInBounds_toArray, List.set_cons_zero, List.set_cons_succ]) | (apply hO_off; (· rfl); (· rfl); simp only [Act.put, List.setIfInBounds_toArray, List.set_cons_zero, List.set_cons_succ]) | (apply hO_un; (· rfl); (· rfl); simp only [Act.put, List.setIfInBounds_toArray, List.set_cons_zero, List.set_cons_succ]) | (apply hO_val; (· intro w hS; go_simp; with_reducible rfl); (· rfl); simp only [Act.put, List.setIfInBounds_toArray, List.set_cons_zero, List.set_cons_succ]) | (apply hO_call; (· rfl); (· intro w hS; go_simp; exact ⟨rfl, rfl⟩); (· intro w hS; fail); simp only [Act.put, List.setIfInBounds_toArray, List.set_cons_zero, List.set_cons_succ]) | (apply hO_if; (· rfl); (· rfl); (· intro hif w hS; go_simp; with_reducible rfl); simp only [Act.put, List.setIfInBounds_toArray, List.set_cons_zero, List.set_cons_succ]) | (apply hO_ifcall; (· rfl); (· rfl); (· intro hif w hS; go_simp; exact ⟨rfl, rfl⟩); (· intro hif w hS; fail); simp only [Act.put, List.setIfInBounds_toArray, List.set_cons_zero, List.set_cons_succ]))); refine hO_nil ?_; refine hK _ ?_; clear hK K
          intro w7 hx7
          have hc7 := (HBE.out.ext hx7).cell
          clear hc6
          cases hdn : decide (n < tick + ri) with
          | true =>
            rw [hdn, Bool.true_or] at hm2
            subst hm2
            have hall2 := Lib.hid (show (List.range (k + 1)).all (metAt r L n) = true by rw [HFS.out, hall.out]; rfl)
            go_wp2_with (fail)
            exact ⟨⟨k + 1, hlt, rfl, hall2, hX0.trans hx7⟩, by simp [intOf]; omega⟩
          | false =>
            rw [hdn, Bool.false_or] at hm2
            have HM2 := Lib.hid hm2
            clear hm2
            clear hc7
            go_wp2_with (fail)
            go_loopw [9, 10] (fun d v wr2 => ∃ (j q : Nat) (dd : Bool), j ≤ R.length ∧ d = .bool dd ∧ v = .int .i64 (q : Nat) ∧ Hid (q = k + 1 + j) ∧ Hid ((R.take j).all (fun x => !admB i x) = true ∧ (R.take j).any (finB i) = dd) ∧ Ext W5 wr2) (fun _ v _ => L.length - (intOf v).toNat)
            case atStart => exact ⟨0, k + 1, false, Nat.zero_le _, rfl, by push_cast; rfl, Lib.hid rfl, Lib.hid ⟨rfl, rfl⟩, hx7⟩
            case round =>
              obtain ⟨j, q, dd, hj, rfl, rfl, HQJ, hJ, hX8⟩ := hrel
              have hjl : j < R.length → q < L.length := fun h => by have := HDL.out; have := HQJ.out; omega
              by_cases hjlt : j < R.length
              · obtain ⟨b3, o3, e3, hxj⟩ := HE.out.at (hjl hjlt)
                cases e3
                have hy := fun w' (hx : Ext W5 w') => hxj w' (hX0.trans hx)
                rw [HQJ.out, ← HDA.out j hjlt, evAt_in hjlt, ← HQJ.out] at hy
                have y0 := fun w' hx => (hy w' hx).1
                have y1 := fun w' hx => (hy w' hx).2.1
                have y2 := fun w' hx => (hy w' hx).2.2.1
                have hst1 := List.take_succ_eq_append_getElem hjlt
                have hdone := fun (h : admB i R[j] = true) => doneA_at i R j hJ.out.1 (.inr ⟨hjlt, h⟩)
                have HST := Lib.hid hst1
                have HDN := Lib.hid hdone
                have hjl2 := hjl hjlt
                clear hy hst1 hdone hjl hxj
                generalize R[j] = x at *
                obtain ⟨xa, xk, xt, xn⟩ := x
                dsimp only at y0 y1 y2
                go_upto_region 11 with (fail)
                cases hxk : (xk == 1) with
                | true =>
                  obtain rfl := eq_of_beq hxk
                  cases hxt : (xt == (i : Int)) with
                  | true =>
                    obtain rfl := eq_of_beq hxt
                    have hd := HDN.out (by simp [admB])
                    rw [hJ.out.2, ← HM2.out] at hd
                    subst hd
                    refine wp_region_all (S := Ext W5) (by kernel_rfl) (by kernel_rfl) hX8.drew (fun K hK => ?_); (repeat (first | (apply hO_and (p := false) (q := true); (· rfl); (· rfl); (· rfl); (· rfl); simp only [Act.put, List.setIfInBounds_toArray, List.set_cons_zero, List.set_cons_succ]) | (apply hO_or (p := true) (q := true); (· rfl); (· rfl); (· rfl); (· rfl); simp only [Act.put, List.setIfInBounds_toArray, List.set_cons_zero, List.set_cons_succ]) | (apply hO_and; (· rfl); (· rfl); (· rfl); (· rfl); simp only [Act.put, List.setIfInBounds_toArray, List.set_cons_zero, List.set_cons_succ]) | (apply hO_or; (· rfl); (· rfl); (· rfl); (· rfl); simp only [Act.put, List.setIfInBounds_toArray, List.set_cons_zero, List.set_cons_succ]) | (apply hO_off; (· rfl); (· rfl); simp only [Act.put, List.setIfInBounds_toArray, List.set_cons_zero, List.set_cons_succ]) | (apply hO_un; (· rfl); (· rfl); simp only [Act.put, List.setIfInBounds_toArray, List.set_cons_zero, List.set_cons_succ]) | (apply hO_val; (· intro w hS; go_simp; with_reducible rfl); (· rfl); simp only [Act.put, List.setIfInBounds_toArray, List.set_cons_zero, List.set_cons_succ]) | (apply hO_call; (· rfl); (· intro w hS; go_simp; exact ⟨rfl, rfl⟩); (· intro w hS; fail); simp only [Act.put, List.setIfInBounds_toArray, List.set_cons_zero, List.set_cons_succ]) | (apply hO_if; (· rfl); (· rfl); (· intro hif w hS; go_simp; with_reducible rfl); simp only [Act.put, List.setIfInBounds_toArray, List.set_cons_zero, List.set_cons_succ]) | (apply hO_ifcall; (· rfl); (· rfl); (· intro hif w hS; go_simp; exact ⟨rfl, rfl⟩); (· intro hif w hS; fail); simp only [Act.put, List.setIfInBounds_toArray, List.set_cons_zero, List.set_cons_succ]))); refine hO_nil ?_; refine hK _ ?_; clear hK K
                    intro w8 hx8
                    clear y0 y1 y2
                    cases mk with
                    | false =>
                      have hres := HNO.out rfl
                      rw [HR.out] at hres
                      subst hres
                      go_wp2_with (fail)
                      go_ret
                      exact ⟨rfl, hX0.trans hx8⟩
                    | true =>
                      have hall2 := Lib.hid (show (List.range (k + 1)).all (metAt r L n) = true by rw [HFS.out, hall.out]; rfl)
                      go_wp2_with (fail)
                      exact ⟨⟨k + 1, hlt, rfl, hall2, hX0.trans hx8⟩, by simp [intOf]; omega⟩
                  | false =>
                    have HAD := Lib.hid (show admB i ⟨xa, 1, xt, xn⟩ = false by simp [admB]; simpa using hxt)
                    refine wp_region_all (S := Ext W5) (by kernel_rfl) (by kernel_rfl) hX8.drew (fun K hK => ?_); (repeat (first | (apply hO_and (p := false) (q := true); (· rfl); (· rfl); (· rfl); (· rfl); simp only [Act.put, List.setIfInBounds_toArray, List.set_cons_zero, List.set_cons_succ]) | (apply hO_or (p := true) (q := true); (· rfl); (· rfl); (· rfl); (· rfl); simp only [Act.put, List.setIfInBounds_toArray, List.set_cons_zero, List.set_cons_succ]) | (apply hO_and; (· rfl); (· rfl); (· rfl); (· rfl); simp only [Act.put, List.setIfInBounds_toArray, List.set_cons_zero, List.set_cons_succ]) | (apply hO_or; (· rfl); (· rfl); (· rfl); (· rfl); simp only [Act.put, List.setIfInBounds_toArray, List.set_cons_zero, List.set_cons_succ]) | (apply hO_off; (· rfl); (· rfl); simp only [Act.put, List.setIfInBounds_toArray, List.set_cons_zero, List.set_cons_succ]) | (apply hO_un; (· rfl); (· rfl); simp only [Act.put, List.setIfInBounds_toArray, List.set_cons_zero, List.set_cons_succ]) | (apply hO_val; (· intro w hS; go_simp; with_reducible rfl); (· rfl); simp only [Act.put, List.setIfInBounds_toArray, List.set_cons_zero, List.set_cons_succ]) | (apply hO_call; (· rfl); (· intro w hS; go_simp; exact ⟨rfl, rfl⟩); (· intro w hS; fail); simp only [Act.put, List.setIfInBounds_toArray, List.set_cons_zero, List.set_cons_succ]) | (apply hO_if; (· rfl); (· rfl); (· intro hif w hS; go_simp; with_reducible rfl); simp only [Act.put, List.setIfInBounds_toArray, List.set_cons_zero, List.set_cons_succ]) | (apply hO_ifcall; (· rfl); (· rfl); (· intro hif w hS; go_simp; exact ⟨rfl, rfl⟩); (· intro hif w hS; fail); simp only [Act.put, List.setIfInBounds_toArray, List.set_cons_zero, List.set_cons_succ]))); refine hO_nil ?_; refine hK _ ?_; clear hK K
                    intro w8 hx8
                    have z0 := y0 w8 hx8
                    have z1 := y1 w8 hx8
                    have z2 := y2 w8 hx8
                    have hc8 := (HBE.out.ext hx8).cell
                    clear y0 y1 y2 hce
                    have hnx := Lib.hid (show (R.take (j + 1)).all (fun x => !admB i x) = true ∧ (R.take (j + 1)).any (finB i) = dd by
                      rw [HST.out, List.all_append, List.any_append, hJ.out.1, hJ.out.2, List.all_cons, List.any_cons, HAD.out]; simp [finB]; intro h; exact absurd h (by simpa using hxt))
                    cases dd with
                    | true =>
                      go_wp2_with (fail)
                      go_quiet (fail)
                      go_wp2_with (fail)
                      exact ⟨⟨j + 1, q + 1, true, hjlt, rfl, by push_cast; rfl, Lib.hid (by have := HQJ.out; omega), hnx, hx8.drewN _⟩, by simp [intOf]; omega⟩
                    | false =>
                      go_wp2_with (fail)
                      go_quiet (fail)
                      go_wp2_with (fail)
                      exact ⟨⟨j + 1, q + 1, false, hjlt, rfl, by push_cast; rfl, Lib.hid (by have := HQJ.out; omega), hnx, hx8.drewN _⟩, by simp [intOf]; omega⟩
                | false =>
                  have HAD := Lib.hid (show admB i ⟨xa, xk, xt, xn⟩ = false by simp [admB]; intro h; simp [h] at hxk)
                  refine wp_region_all (S := Ext W5) (by kernel_rfl) (by kernel_rfl) hX8.drew (fun K hK => ?_); (repeat (first | (apply hO_and (p := false) (q := true); (· rfl); (· rfl); (· rfl); (· rfl); simp only [Act.put, List.setIfInBounds_toArray, List.set_cons_zero, List.set_cons_succ]) | (apply hO_or (p := true) (q := true); (· rfl); (· rfl); (· rfl); (· rfl); simp only [Act.put, List.setIfInBounds_toArray, List.set_cons_zero, List.set_cons_succ]) | (apply hO_and; (· rfl); (· rfl); (· rfl); (· rfl); simp only [Act.put, List.setIfInBounds_toArray, List.set_cons_zero, List.set_cons_succ]) | (apply hO_or; (· rfl); (· rfl); (· rfl); (· rfl); simp only [Act.put, List.setIfInBounds_toArray, List.set_cons_zero, List.set_cons_succ]) | (apply hO_off; (· rfl); (· rfl); simp only [Act.put, List.setIfInBounds_toArray, List.set_cons_zero, List.set_cons_succ]) | (apply hO_un; (· rfl); (· rfl); simp only [Act.put, List.setIfInBounds_toArray, List.set_cons_zero, List.set_cons_succ]) | (apply hO_val; (· intro w hS; go_simp; with_reducible rfl); (· rfl); simp only [Act.put, List.setIfInBounds_toArray, List.set_cons_zero, List.set_cons_succ]) | (apply hO_call; (· rfl); (· intro w hS; go_simp; exact ⟨rfl, rfl⟩); (· intro w hS; fail); simp only [Act.put, List.setIfInBounds_toArray, List.set_cons_zero, List.set_cons_succ]) | (apply hO_if; (· rfl); (· rfl); (· intro hif w hS; go_simp; with_reducible rfl); simp only [Act.put, List.setIfInBounds_toArray, List.set_cons_zero, List.set_cons_succ]) | (apply hO_ifcall; (· rfl); (· rfl); (· intro hif w hS; go_simp; exact ⟨rfl, rfl⟩); (· intro hif w hS; fail); simp only [Act.put, List.setIfInBounds_toArray, List.set_cons_zero, List.set_cons_succ]))); refine hO_nil ?_; refine hK _ ?_; clear hK K
                  intro w8 hx8
                  have z0 := y0 w8 hx8
                  have z1 := y1 w8 hx8
                  have z2 := y2 w8 hx8
                  have hc8 := (HBE.out.ext hx8).cell
                  clear y0 y1 y2 hce
                  have HFI := Lib.hid (show (R.take (j + 1)).all (fun x => !admB i x) = true ∧ (R.take (j + 1)).any (finB i) = (dd || finB i ⟨xa, xk, xt, xn⟩) by
                    rw [HST.out, List.all_append, List.any_append, hJ.out.1, hJ.out.2, List.all_cons, List.any_cons, HAD.out]; simp)
                  cases dd with
                  | true =>
                    go_wp2_with (fail)
                    go_quiet (fail)
                    go_wp2_with (fail)
                    exact ⟨⟨j + 1, q + 1, true, hjlt, rfl, by push_cast; rfl, Lib.hid (by have := HQJ.out; omega), HFI, hx8.drewN _⟩, by simp [intOf]; omega⟩
                  | false =>
                    cases hxt : (xt == (i : Int)) with
                    | false =>
                      have HFB := Lib.hid (show finB i ⟨xa, xk, xt, xn⟩ = false by simp [finB]; intro h; simp [h] at hxt)
                      go_wp2_with (fail)
                      go_quiet (fail)
                      go_wp2_with (fail)
                      exact ⟨⟨j + 1, q + 1, false, hjlt, rfl, by push_cast; rfl, Lib.hid (by have := HQJ.out; omega), Lib.hid ⟨HFI.out.1, by rw [HFI.out.2, HFB.out]; rfl⟩, hx8.drewN _⟩, by simp [intOf]; omega⟩
                    | true =>
                      cases hx8' : (xk == 8) with
                      | true =>
                        have HFB := Lib.hid (show finB i ⟨xa, xk, xt, xn⟩ = true by simp [finB, endB]; exact ⟨by simpa using hxt, .inl (by simpa using hx8')⟩)
                        go_wp2_with (fail)
                        go_quiet (fail)
                        go_wp2_with (fail)
                        exact ⟨⟨j + 1, q + 1, true, hjlt, rfl, by push_cast; rfl, Lib.hid (by have := HQJ.out; omega), Lib.hid ⟨HFI.out.1, by rw [HFI.out.2, HFB.out]; rfl⟩, hx8.drewN _⟩, by simp [intOf]; omega⟩
                      | false =>
                        cases hx9' : (xk == 9) with
                        | true =>
                          have HFB := Lib.hid (show finB i ⟨xa, xk, xt, xn⟩ = true by simp [finB, endB]; exact ⟨by simpa using hxt, .inr (by simpa using hx9')⟩)
                          go_wp2_with (fail)
                          go_quiet (fail)
                          go_wp2_with (fail)
                          exact ⟨⟨j + 1, q + 1, true, hjlt, rfl, by push_cast; rfl, Lib.hid (by have := HQJ.out; omega), Lib.hid ⟨HFI.out.1, by rw [HFI.out.2, HFB.out]; rfl⟩, hx8.drewN _⟩, by simp [intOf]; omega⟩
                        | false =>
                          have HFB := Lib.hid (show finB i ⟨xa, xk, xt, xn⟩ = false by simp [finB, endB]; intro _; exact ⟨by simpa using hx8', by simpa using hx9'⟩)
                          go_wp2_with (fail)
                          go_quiet (fail)
                          go_wp2_with (fail)
                          exact ⟨⟨j + 1, q + 1, false, hjlt, rfl, by push_cast; rfl, Lib.hid (by have := HQJ.out; omega), Lib.hid ⟨HFI.out.1, by rw [HFI.out.2, HFB.out]; rfl⟩, hx8.drewN _⟩, by simp [intOf]; omega⟩
              · have hje : j = R.length := by omega
                have hql : q = L.length := by have := HDL.out; have := HQJ.out; omega
                have hd := doneA_at i R j hJ.out.1 (.inl hje)
                rw [hJ.out.2, ← HM2.out] at hd
                subst hd
                subst hql
                go_upto_region 11 with (fail)
                refine wp_region_all (S := Ext W5) (by kernel_rfl) (by kernel_rfl) hX8.drew (fun K hK => ?_); (repeat (first | (apply hO_and (p := false) (q := true); (· rfl); (· rfl); (· rfl); (· rfl); simp only [Act.put, List.setIfInBounds_toArray, List.set_cons_zero, List.set_cons_succ]) | (apply hO_or (p := true) (q := true); (· rfl); (· rfl); (· rfl); (· rfl); simp only [Act.put, List.setIfInBounds_toArray, List.set_cons_zero, List.set_cons_succ]) | (apply hO_and; (· rfl); (· rfl); (· rfl); (· rfl); simp only [Act.put, List.setIfInBounds_toArray, List.set_cons_zero, List.set_cons_succ]) | (apply hO_or; (· rfl); (· rfl); (· rfl); (· rfl); simp only [Act.put, List.setIfInBounds_toArray, List.set_cons_zero, List.set_cons_succ]) | (apply hO_off; (· rfl); (· rfl); simp only [Act.put, List.setIfInBounds_toArray, List.set_cons_zero, List.set_cons_succ]) | (apply hO_un; (· rfl); (· rfl); simp only [Act.put, List.setIfInBounds_toArray, List.set_cons_zero, List.set_cons_succ]) | (apply hO_val; (· intro w hS; go_simp; with_reducible rfl); (· rfl); simp only [Act.put, List.setIfInBounds_toArray, List.set_cons_zero, List.set_cons_succ]) | (apply hO_call; (· rfl); (· intro w hS; go_simp; exact ⟨rfl, rfl⟩); (· intro w hS; fail); simp only [Act.put, List.setIfInBounds_toArray, List.set_cons_zero, List.set_cons_succ]) | (apply hO_if; (· rfl); (· rfl); (· intro hif w hS; go_simp; with_reducible rfl); simp only [Act.put, List.setIfInBounds_toArray, List.set_cons_zero, List.set_cons_succ]) | (apply hO_ifcall; (· rfl); (· rfl); (· intro hif w hS; go_simp; exact ⟨rfl, rfl⟩); (· intro hif w hS; fail); simp only [Act.put, List.setIfInBounds_toArray, List.set_cons_zero, List.set_cons_succ]))); refine hO_nil ?_; refine hK _ ?_; clear hK K
                intro w8 hx8
                cases mk with
                | false =>
                  have hres := HNO.out rfl
                  rw [HR.out] at hres
                  subst hres
                  go_wp2_with (fail)
                  go_ret
                  exact ⟨rfl, hX0.trans hx8⟩
                | true =>
                  have hall2 := Lib.hid (show (List.range (k + 1)).all (metAt r L n) = true by rw [HFS.out, hall.out]; rfl)
                  go_wp2_with (fail)
                  exact ⟨⟨k + 1, hlt, rfl, hall2, hX0.trans hx8⟩, by simp [intOf]; omega⟩
      · have hm2 := HME.out
        rw [if_neg (fun h => hJ (.inl h)), if_neg (fun h => hJ (.inr (endB_iff.1 h)))] at hm2
        subst hm2
        have hall2 := Lib.hid (show (List.range (k + 1)).all (metAt r L n) = true by rw [HFS.out, hall.out]; rfl)
        have k1 : (e.kind == 1) = false := by simp; omega
        have k1n : (e.kind != 1) = true := by simp; omega
        have k8 : (e.kind == 8) = false := by simp; omega
        have k9 : (e.kind == 9) = false := by simp; omega
        clear hJ
        cases hl0 : decide (e.task < 0) with
        | true =>
          go_wp2_with (fail)
          exact ⟨⟨k + 1, hlt, rfl, hall2, hX0⟩, by simp [intOf]; omega⟩
        | false =>
          cases hl1 : decide ((r.length : Int) ≤ e.task) with
          | true =>
            go_wp2_with (fail)
            exact ⟨⟨k + 1, hlt, rfl, hall2, hX0⟩, by simp [intOf]; omega⟩
          | false =>
            go_upto_region 6 with (fail)
            refine wp_region_all (S := Ext W5) (by kernel_rfl) (by kernel_rfl) (Ext.refl W5).drew (fun K hK => ?_); (repeat (first | (apply hO_and (p := false) (q := true); (· rfl); (· rfl); (· rfl); (· rfl); simp only [Act.put, List.setIfInBounds_toArray, List.set_cons_zero, List.set_cons_succ]) | (apply hO_or (p := true) (q := true); (· rfl); (· rfl); (· rfl); (· rfl); simp only [Act.put, List.setIfInBounds_toArray, List.set_cons_zero, List.set_cons_succ]) | (apply hO_and; (· rfl); (· rfl); (· rfl); (· rfl); simp only [Act.put, List.setIfInBounds_toArray, List.set_cons_zero, List.set_cons_succ]) | (apply hO_or; (· rfl); (· rfl); (· rfl); (· rfl); simp only [Act.put, List.setIfInBounds_toArray, List.set_cons_zero, List.set_cons_succ]) | (apply hO_off; (· rfl); (· rfl); simp only [Act.put, List.setIfInBounds_toArray, List.set_cons_zero, List.set_cons_succ]) | (apply hO_un; (· rfl); (· rfl); simp only [Act.put, List.setIfInBounds_toArray, List.set_cons_zero, List.set_cons_succ]) | (apply hO_val; (· intro w hS; go_simp; with_reducible rfl); (· rfl); simp only [Act.put, List.setIfInBounds_toArray, List.set_cons_zero, List.set_cons_succ]) | (apply hO_call; (· rfl); (· intro w hS; go_simp; exact ⟨rfl, rfl⟩); (· intro w hS; fail); simp only [Act.put, List.setIfInBounds_toArray, List.set_cons_zero, List.set_cons_succ]) | (apply hO_if; (· rfl); (· rfl); (· intro hif w hS; go_simp; with_reducible rfl); simp only [Act.put, List.setIfInBounds_toArray, List.set_cons_zero, List.set_cons_succ]) | (apply hO_ifcall; (· rfl); (· rfl); (· intro hif w hS; go_simp; exact ⟨rfl, rfl⟩); (· intro hif w hS; fail); simp only [Act.put, List.setIfInBounds_toArray, List.set_cons_zero, List.set_cons_succ]))); refine hO_nil ?_; refine hK _ ?_; clear hK K
            intro w6 hx6
            go_upto_region 8 with (fail)
            refine wp_region_all (S := Ext W5) (by kernel_rfl) (by kernel_rfl) hx6.drew (fun K hK => ?_); (repeat (first | (apply hO_and (p := false) (q := true); (· rfl); (· rfl); (· rfl); (· rfl); simp only [Act.put, List.setIfInBounds_toArray, List.set_cons_zero, List.set_cons_succ]) | (apply hO_or (p := true) (q := true); (· rfl); (· rfl); (· rfl); (· rfl); simp only [Act.put, List.setIfInBounds_toArray, List.set_cons_zero, List.set_cons_succ]) | (apply hO_and; (· rfl); (· rfl); (· rfl); (· rfl); simp only [Act.put, List.setIfInBounds_toArray, List.set_cons_zero, List.set_cons_succ]) | (apply hO_or; (· rfl); (· rfl); (· rfl); (· rfl); simp only [Act.put, List.setIfInBounds_toArray, List.set_cons_zero, List.set_cons_succ]) | (apply hO_off; (· rfl); (· rfl); simp only [Act.put, List.setIfInBounds_toArray, List.set_cons_zero, List.set_cons_succ]) | (apply hO_un; (· rfl); (· rfl); simp only [Act.put, List.setIfInBounds_toArray, List.set_cons_zero, List.set_cons_succ]) | (apply hO_val; (· intro w hS; go_simp; with_reducible rfl); (· rfl); simp only [Act.put, List.setIfInBounds_toArray, List.set_cons_zero, List.set_cons_succ]) | (apply hO_call; (· rfl); (· intro w hS; go_simp; exact ⟨rfl, rfl⟩); (· intro w hS; fail); simp only [Act.put, List.setIfInBounds_toArray, List.set_cons_zero, List.set_cons_succ]) | (apply hO_if; (· rfl); (· rfl); (· intro hif w hS; go_simp; with_reducible rfl); simp only [Act.put, List.setIfInBounds_toArray, List.set_cons_zero, List.set_cons_succ]) | (apply hO_ifcall; (· rfl); (· rfl); (· intro hif w hS; go_simp; exact ⟨rfl, rfl⟩); (· intro hif w hS; fail); simp only [Act.put, List.setIfInBounds_toArray, List.set_cons_zero, List.set_cons_succ]))); refine hO_nil ?_; refine hK _ ?_; clear hK K
            intro w7 hx7
            go_wp2_with (fail)
            exact ⟨⟨k + 1, hlt, rfl, hall2, hX0.trans hx7⟩, by simp [intOf]; omega⟩
    · have hke : k = L.length := by omega
      subst hke
      have hres : res = true := by rw [← HR.out]; exact hall.out
      subst hres
      go_wp2_with (fail)
      go_ret
      exact ⟨rfl, hXk⟩
end Go.Proofs.Ytlaflbepidkmnaa
/- L27j -/
namespace Go.Proofs.Ytlaflbepidkmnaa
open Go.RowKit
attribute [local go_sem] setCell_twice ByteArray.toList_eq str_list Ext.alloc Ext.drew
set_option linter.unusedSimpArgs false
set_option linter.unusedVariables false
set_option maxRecDepth 100000
set_option maxHeartbeats 1600000
attribute [local irreducible] Calls

/-- what the events of a run are, for the audit -/
structure RunEv (s : TSet) (L : List Ev) : Prop where
  few : L.length ≤ 1000000
  evin : ∀ e ∈ L, evIn e
  pre : preIn s.tasks.length L
  job : jobIn s.tasks.length L
  adm : ∀ e ∈ L, e.kind = 1 → 0 ≤ e.task
  sorted : L.Pairwise fun a b => a.tick ≤ b.tick
  fair : fairB s L = true
theorem runEv {s : TSet} (hk : KH2 s) {l : List Inp} (hl : l.length ≤ 250) : RunEv s (eventsK s l) := by
  have hev := allEv hk.kh l
  have hfew := runK_few hk.kh.len.2 l (initK s)
  have hn := hk.kh.len.2
  have hok : ∀ e ∈ eventsK s l, okEv s.tasks.length e := hev.ok
  have hbt : ∀ e ∈ eventsK s l, 1 ≤ e.kind ∧ e.kind ≤ 10 ∧ ((e.kind = 10 ∧ e.task = -1) ∨ (e.kind ≤ 9 ∧ 0 ≤ e.task ∧ e.task < s.tasks.length)) := fun e he => by
    rcases hok e he with h | h
    · exact ⟨by omega, by omega, .inl ⟨by omega, by omega⟩⟩
    · exact ⟨by omega, by omega, .inr ⟨by omega, by omega⟩⟩
  refine ⟨by unfold eventsK; omega, fun e he => ?_, fun e he h => ?_, fun e he h => ?_, fun e he h => ?_, hev.sorted, fair_of hev.fair (fun e he => (hev.tick e he).1) hev.sorted⟩
  · have h1 := hev.tick e he
    have h2 := hbt e he
    refine ⟨h1.1, by omega, by omega, by omega, by omega, by omega⟩
  · have h2 := hbt e he
    omega
  · have h2 := hbt e he
    omega
  · have h2 := hbt e he
    omega
theorem auditJudges_walk (v0 : Value) (s : TSet) (vl : Value) (l : List Inp) (vr : Value) (r : List Int) (w : World) (hv0 : ∃ u, v0 = setV s u ∧ Tasks w u s.tasks ∧ s.fit) (hl0 : SlR InpR 3 Any w vl l ∧ ∀ x ∈ l, x.ok) (hr0 : Ints w vr r ∧ ∀ x ∈ r, (Lit.int .i64 x).wf = true) :
    Calls Try.prog 4 #[v0, vl, vr] w fun e w' => e = .returned (.bool true) ∧ Below w.heap.size w w' := by
  obtain ⟨u, rfl, hv, hf⟩ := hv0
  obtain ⟨hl, ho⟩ := hl0
  obtain ⟨hr, hrw⟩ := hr0
  obtain ⟨A, c, rfl, hcc, hcm, hxx⟩ := id hv
  obtain ⟨Al, cl, rfl, hcl, hcm2⟩ := SlR.form hl
  obtain ⟨Ar, cr, rfl, hcr1, hcr2, hxr⟩ := id hr
  clear hxx hxr
  unfold maxLen at hcm hcm2 hcr2
  have hX1 := (Ext.refl w).alloc (.cells #[.int .i64 s.reload, .slice A s.tasks.length c] 24)
  have hB1 := Blk.new w #[.int .i64 s.reload, .slice A s.tasks.length c] 24
  have hAll := fun w' (hx : Ext w w') => allR_any s (.slice A s.tasks.length c) w' (hv.ext hx) hf.good
  have hLong := fun w' (hx : Ext w w') => long27_any (.slice Al l.length cl) l w' (SlR.ext hl fun _ _ _ h => h.ext hx)
  have hRun := fun w' (hx : Ext w w') (hb : allB s = true) (hlg : longB l = false) => events27_any s (.slice A s.tasks.length c) (.slice Al l.length cl) l w' (hv.ext hx) hf hb (kh_of hb hf) (SlR.ext hl fun _ _ _ h => h.ext hx) ho (by have := longB_no hlg; omega)
  unfold setV at hAll hRun ⊢
  have HALL := Lib.hid hAll
  have HLONG := Lib.hid hLong
  have HRUN := Lib.hid hRun
  have HV := Lib.hid hv
  have HI := Lib.hid hr
  clear hAll hLong hRun hv hl hr hrw
  cases hd : decide (10 < (s.tasks.length : Int)) with
  | true =>
    go_enter Try.func4, Try.ntmps4
    go_wp2_with (fail)
    go_ret
    exact ⟨rfl, hX1.below⟩
  | false =>
    go_enter Try.func4, Try.ntmps4
    go_upto_region 1 with (fail)
    generalize hW : w.alloc _ = W1 at hX1 hB1 ⊢
    clear hW
    have hcB := hB1.under
    have hc1 := hB1.cell
    go_wp2_with (fail)
    refine (HALL.out W1 hX1).mono ?_
    rintro e W2 ⟨rfl, hb2⟩
    have hX12 : Ext W1 W2 := ⟨hb2⟩
    have hXW2 := hX1.trans hX12
    clear hb2 hc1
    cases hb : allB s with
    | false =>
      go_wp2_with (fail)
      go_ret
      exact ⟨rfl, hXW2.below⟩
    | true =>
      go_wp2_with (fail)
      refine (HLONG.out W2 hXW2).mono ?_
      rintro e W3 ⟨rfl, rfl⟩
      cases hlg : longB l with
      | true =>
        go_wp2_with (fail)
        go_ret
        exact ⟨rfl, hXW2.below⟩
      | false =>
        have hc2 := hcB W2 hX12
        cases hlen : ((r.length : Int) == (s.tasks.length : Int)) with
        | false =>
          go_wp2_with (fail)
          go_ret
          exact ⟨rfl, hXW2.below⟩
        | true =>
          have hle : r.length = s.tasks.length := by have := eq_of_beq hlen; omega
          have HLE := Lib.hid hle
          have hrun := HRUN.out W2 hXW2 hb hlg
          have hk := kh_of hb hf
          have hre := runEv hk (longB_no hlg)
          have hl250 := longB_no hlg
          have HRUN2 := Lib.hid hrun
          have HRE := Lib.hid hre
          have HK := Lib.hid hk
          clear hrun hre hk hlg hb HRUN HLONG hle
          go_wp2_with (fail)
          go_loopw [7] (fun i wr => ∃ k : Nat, k ≤ r.length ∧ i = .int .i64 k ∧ Hid (∀ x ∈ r.take k, 0 ≤ x ∧ x ≤ 1099511627776) ∧ wr = W2) (fun i _ => r.length - (intOf i).toNat)
          case atStart => exact ⟨0, Nat.zero_le _, rfl, Lib.hid (fun x hx => by cases hx), rfl⟩
          case round =>
            obtain ⟨k, hk, rfl, hall, rfl⟩ := hrel
            by_cases hlt : k < r.length
            · obtain ⟨b, o, rfl, hx⟩ := (HI.out.ext hXW2).at hlt
              have hx0 := hx wr (Ext.refl _)
              have hsn : ∀ x ∈ r.take (k + 1), x ∈ r.take k ∨ x = r[k] := fun x hx => by
                rw [List.take_succ_eq_append_getElem hlt] at hx
                exact mem_snoc hx
              have HSN := Lib.hid hsn
              clear hsn hx
              generalize r[k] = x at *
              cases h0 : decide (x < 0) with
              | true =>
                go_wp2_with (fail)
                go_ret
                exact ⟨rfl, hXW2.below⟩
              | false =>
                cases h1 : decide (1099511627776 < x) with
                | true =>
                  go_wp2_with (fail)
                  go_ret
                  exact ⟨rfl, hXW2.below⟩
                | false =>
                  have hall2 := Lib.hid (show ∀ y ∈ r.take (k + 1), 0 ≤ y ∧ y ≤ 1099511627776 from fun y hy => by
                    rcases HSN.out y hy with h | rfl
                    · exact hall.out y h
                    · simp at h0 h1; omega)
                  go_wp2_with (fail)
                  exact ⟨⟨k + 1, hlt, rfl, hall2, (by first | trivial | rfl)⟩, by simp [intOf]; omega⟩
            · have hke : k = r.length := by omega
              subst hke
              have hbd := hall.out
              rw [List.take_length] at hbd
              have HBD := Lib.hid hbd
              clear hbd
              go_wp2_with (fail)
              refine HRUN2.out.mono ?_
              rintro e W3 ⟨vo, rfl, hO, hX23⟩
              have hXW3 := hXW2.trans hX23
              obtain ⟨Ao, co, rfl, hco, hco2⟩ := OwnL.form hO
              have HE := Lib.hid (OwnL.evs hO)
              have hc3 := hcB W3 (hX12.trans hX23)
              generalize eventsK s l = L at *
              have hM1 := auMet_any (.slice Ar r.length cr) (.slice Ao L.length co) r L l.length W3 (HI.out.ext hXW3) HBD.out HE.out HRE.out.few HRE.out.evin (by rw [HLE.out]; exact HRE.out.job)
              have hM2 := fun w' (hx : Ext W3 w') => met27_any (.slice Ar r.length cr) (.slice Ao L.length co) r L l.length w' (HI.out.ext (hXW3.trans hx)) HBD.out (HE.out.ext hx) HRE.out.few HRE.out.evin (by rw [HLE.out]; exact HRE.out.job)
              have hF := fun w' (hx : Ext W3 w') => auFair_any s (.slice A s.tasks.length c) (.slice Ao L.length co) L w' (HV.out.ext (hXW3.trans hx)) HK.out.q (HE.out.ext hx) HRE.out.few HRE.out.evin HRE.out.pre HRE.out.adm HRE.out.sorted
              rw [HRE.out.fair] at hF
              unfold setV at hF
              have HM1 := Lib.hid hM1
              have HM2 := Lib.hid hM2
              have HF := Lib.hid hF
              clear hM1 hM2 hF hO hc2
              generalize metB r L l.length = mb at *
              go_wp2_with (fail)
              refine HM1.out.mono ?_
              rintro _ W4 ⟨rfl, hX4⟩
              have hc4 := hcB W4 (hX12.trans (hX23.trans hX4))
              clear hc3
              go_wp2_with (fail)
              refine (HM2.out W4 hX4).mono ?_
              rintro _ W5 ⟨rfl, hX5⟩
              have hX45 := hX4.trans hX5
              have hc5 := hcB W5 (hX12.trans (hX23.trans hX45))
              clear hc4
              have hmm : (mb == mb) = true := by simp
              go_wp2_with (fail)
              refine (HF.out W5 hX45).mono ?_
              rintro _ W6 ⟨rfl, hX6⟩
              clear hc5
              go_wp2_with (fail)
              refine (known27_any W6).mono ?_
              rintro _ W7 ⟨rfl, hX7⟩
              go_wp2_with (fail)
              go_ret
              exact ⟨rfl, (hXW3.trans (hX45.trans (hX6.trans hX7))).below⟩
end Go.Proofs.Ytlaflbepidkmnaa
/- L27r -/
namespace Go.Proofs.Ytlaflbepidkmnaa
open Go.RowKit
attribute [local go_sem] setCell_twice ByteArray.toList_eq str_list Ext.alloc Ext.drew
set_option linter.unusedSimpArgs false
set_option linter.unusedVariables false
set_option maxRecDepth 100000
set_option maxHeartbeats 1600000
attribute [local irreducible] Calls

theorem au_all {s : TSet} (hs : KH s) (l : List Inp) (t : Nat) (ht : t < l.length) : ((ranF ((List.range l.length).map (tickL (eventsK s l)))).1.getD t 0 = -1 → ∀ y, (penF ((List.range l.length).map (tickL (eventsK s l)))).1.getD t (fun _ => false) y = false) ∧ ((ranF ((List.range l.length).map (tickL (eventsK s l)))).1.getD t 0 ≠ -1 → (penF ((List.range l.length).map (tickL (eventsK s l)))).1.getD t (fun _ => false) ((ranF ((List.range l.length).map (tickL (eventsK s l)))).1.getD t 0) = true) := by
  obtain ⟨k, P, h, _, _, _, h3⟩ := au_at hs l l.length (Nat.le_refl _)
  rw [h.all]
  exact h3 t ht
theorem OwnL.vals {w : World} {base : Nat} {e : TypeId} {v : Value} {vs : List Value} (h : OwnL enc1 w base e 1 v vs) : SlR (fun w b o x => w.cell? ⟨b, o, none⟩ = some x) 1 Any w v vs :=
  OwnL.read h (fun _ => rfl) (fun _ _ _ => trivial) (fun b o p hp hx => by have := hx 0 _ rfl; exact this)
theorem mem_of_any {l : List Int} {x : Int} : l.any (fun y => y == x) = true ↔ x ∈ l := by
  rw [List.any_eq_true]
  exact ⟨fun ⟨y, h1, h2⟩ => by rw [eq_of_beq h2] at h1; exact h1, fun h => ⟨x, h, by simp⟩⟩
theorem auditRan_walk (v0 : Value) (s : TSet) (vl : Value) (l : List Inp) (w : World) (hv0 : ∃ u, v0 = setV s u ∧ Tasks w u s.tasks ∧ s.fit) (hl0 : SlR InpR 3 Any w vl l ∧ ∀ x ∈ l, x.ok) :
    Calls Try.prog 5 #[v0, vl] w fun e w' => e = .returned (.bool true) ∧ Below w.heap.size w w' := by
  obtain ⟨u, rfl, hv, hf⟩ := hv0
  obtain ⟨hl, ho⟩ := hl0
  obtain ⟨A, c, rfl, hcc, hcm, hxx⟩ := id hv
  obtain ⟨Al, cl, rfl, hcl, hcm2⟩ := SlR.form hl
  clear hxx
  unfold maxLen at hcm hcm2
  have hX1 := (Ext.refl w).alloc (.cells #[.int .i64 s.reload, .slice A s.tasks.length c] 24)
  have hB1 := Blk.new w #[.int .i64 s.reload, .slice A s.tasks.length c] 24
  have hAll := fun w' (hx : Ext w w') => allR_any s (.slice A s.tasks.length c) w' (hv.ext hx) hf.good
  have hLong := fun w' (hx : Ext w w') => long27_any (.slice Al l.length cl) l w' (SlR.ext hl fun _ _ _ h => h.ext hx)
  have hRun := fun w' (hx : Ext w w') (hb : allB s = true) (hlg : longB l = false) => events27_any s (.slice A s.tasks.length c) (.slice Al l.length cl) l w' (hv.ext hx) hf hb (kh_of hb hf) (SlR.ext hl fun _ _ _ h => h.ext hx) ho (by have := longB_no hlg; omega)
  unfold setV at hAll hRun ⊢
  have HALL := Lib.hid hAll
  have HLONG := Lib.hid hLong
  have HRUN := Lib.hid hRun
  clear hAll hLong hRun hv hl
  cases hd : decide (10 < (s.tasks.length : Int)) with
  | true =>
    go_enter Try.func5, Try.ntmps5
    go_wp2_with (fail)
    go_ret
    exact ⟨rfl, hX1.below⟩
  | false =>
    go_enter Try.func5, Try.ntmps5
    go_upto_region 1 with (fail)
    generalize hW : w.alloc _ = W1 at hX1 hB1 ⊢
    clear hW
    have hcB := hB1.under
    have hc1 := hB1.cell
    go_wp2_with (fail)
    refine (HALL.out W1 hX1).mono ?_
    rintro e W2 ⟨rfl, hb2⟩
    have hX12 : Ext W1 W2 := ⟨hb2⟩
    have hXW2 := hX1.trans hX12
    clear hb2 hc1
    cases hb : allB s with
    | false =>
      go_wp2_with (fail)
      go_ret
      exact ⟨rfl, hXW2.below⟩
    | true =>
      go_wp2_with (fail)
      refine (HLONG.out W2 hXW2).mono ?_
      rintro e W3 ⟨rfl, rfl⟩
      cases hlg : longB l with
      | true =>
        go_wp2_with (fail)
        go_ret
        exact ⟨rfl, hXW2.below⟩
      | false =>
        have hc2 := hcB W2 hX12
        have hrun := HRUN.out W2 hXW2 hb hlg
        have hk := kh_of hb hf
        have hre := runEv hk (longB_no hlg)
        have hl250 := longB_no hlg
        have hau := au_all hk.kh l
        have hn8 := hk.kh.len.2
        have HRUN2 := Lib.hid hrun
        have HRE := Lib.hid hre
        have HAU := Lib.hid hau
        clear hrun hre hk hlg hb HRUN HLONG hau
        go_wp2_with (fail)
        refine HRUN2.out.mono ?_
        rintro e W3 ⟨vo, rfl, hO, hX23⟩
        have hXW3 := hXW2.trans hX23
        obtain ⟨Ao, co, rfl, hco, hco2⟩ := OwnL.form hO
        have HE := Lib.hid (OwnL.evs hO)
        generalize eventsK s l = L at *
        have hin0 : ∀ e ∈ L, evIn0 e := fun e he => by have := HRE.out.evin e he; exact ⟨by have := this.1; omega, by have := this.2.1; omega⟩
        have hin2 : ∀ e ∈ L, -1 ≤ e.task ∧ e.task < 8 := fun e he => (HRE.out.evin e he).2.2.2.2
        have hR := ran_au (.slice Ao L.length co) L l.length W3 HE.out (by omega) HRE.out.few hin0
        have hP := fun w' (hx : Ext W3 w') => pending_au (.slice Ao L.length co) L l.length w' (HE.out.ext hx) (by omega) HRE.out.few hin0 hin2
        have hlr := ranF_len ((List.range l.length).map (tickL L))
        have hlp := penF_len ((List.range l.length).map (tickL L))
        rw [List.length_map, List.length_range] at hlr hlp
        generalize (ranF ((List.range l.length).map (tickL L))).1 = rr at *
        generalize (penF ((List.range l.length).map (tickL L))).1 = pp at *
        have HR := Lib.hid hR
        have HP := Lib.hid hP
        have HLR := Lib.hid hlr
        clear hO hc2 hin0 hin2 hR hP
        go_wp2_with (fail)
        refine HR.out.mono ?_
        rintro e W4 ⟨vr, rfl, hOr, hX4⟩
        go_wp2_with (fail)
        refine (HP.out W4 hX4).mono ?_
        rintro e W5 ⟨vp, vs, rfl, hI, hX5⟩
        have hXW5 := hXW3.trans (hX4.trans hX5)
        have hIr := RowP.ints (OwnL.below hOr hX5.below)
        obtain ⟨Ar, cr, rfl, hcr1, hcr2, _⟩ := id hIr
        have hIv := OwnL.vals hI.row
        obtain ⟨Av, cv, rfl, hcv1, hcv2⟩ := SlR.form hIv
        unfold maxLen at hcr2 hcv2
        have HEA := Lib.hid hI.each
        have hvl := hI.len
        have hvl2 : vs.length = l.length := by omega
        rw [hlr] at hIr ⊢
        rw [hvl2] at hIv ⊢
        have HIR := Lib.hid hIr
        have HIV := Lib.hid hIv
        have HVL := Lib.hid hvl2
        have HPL := Lib.hid hlp
        clear hOr hI hIr hIv hlr hlp hvl hvl2
        go_wp2_with (fail)
        go_loopw [9, 10, 11] (fun v9 _ _ wr => ∃ k : Nat, k ≤ l.length ∧ v9 = .int .i64 k ∧ Ext W5 wr) (fun v9 _ _ _ => l.length - (intOf v9).toNat)
        case atStart => exact ⟨0, Nat.zero_le _, rfl, Ext.refl _⟩
        case round =>
          obtain ⟨k, hk, rfl, hXr⟩ := hrel
          by_cases hlt : k < l.length
          · have h1 : k < rr.length := by rw [HLR.out]; exact hlt
            have h2 : k < vs.length := by rw [HVL.out]; exact hlt
            have h3 : k < pp.length := by rw [HPL.out]; exact hlt
            obtain ⟨b1, o1, rfl, hx1⟩ := HIR.out.at h1
            have hx1 := hx1 _ hXr
            obtain ⟨b2, o2, rfl, hx2⟩ := SlR.at HIV.out h2
            rw [Nat.mul_one] at hx2
            have hx2 := hXr.cell hx2
            have hA := HAU.out k hlt
            rw [List.getD_eq_getElem?_getD, List.getD_eq_getElem?_getD, List.getElem?_eq_getElem h1, List.getElem?_eq_getElem h3] at hA
            simp only [Option.getD_some] at hA
            obtain ⟨ss, base, hrow, hmem⟩ := HEA.out k h2 h3
            have hIs := RowP.ints hrow
            have HA := Lib.hid hA
            have HM := Lib.hid hmem
            clear hA hmem hrow
            generalize rr[k] = x at *
            generalize pp[k] = f at *
            generalize vs[k] = vk at *
            obtain ⟨As, cs, rfl, hcs1, hcs2, _⟩ := id hIs
            unfold maxLen at hcs2
            have HIS := Lib.hid hIs
            clear hIs
            go_wp2_with (fail)

            go_loopw [10, 11] (fun v10 v11 w2 => ∃ j : Nat, j ≤ ss.length ∧ v11 = .int .i64 j ∧ v10 = .bool ((ss.take j).any fun y => y == x) ∧ Ext wr w2) (fun _ v11 _ => ss.length - (intOf v11).toNat)
            case atStart => exact ⟨0, Nat.zero_le _, rfl, rfl, Ext.refl _⟩
            case round =>
              obtain ⟨j, hj, rfl, rfl, hX2⟩ := hrel
              have hx1 := hX2.cell hx1
              have hx2 := hX2.cell hx2
              by_cases hjlt : j < ss.length
              · obtain ⟨b3, o3, rfl, hx3⟩ := HIS.out.at hjlt
                have hx3 := hx3 _ (hXr.trans hX2)
                have hsn : (ss.take (j + 1)).any (fun y => y == x) = ((ss.take j).any (fun y => y == x) || (ss[j] == x)) := by
                  rw [List.take_succ_eq_append_getElem hjlt, List.any_append]; simp
                have HSN := Lib.hid hsn
                clear hsn
                generalize ss[j] = y at *
                generalize (ss.take j).any (fun y => y == x) = hb at *
                go_upto_region 14 with (fail)
                cases hb with
                | true =>
                  go_quiet (fail)
                  go_wp2_with (fail)
                  exact ⟨⟨j + 1, hjlt, rfl, by rw [HSN.out]; rfl, hX2.drewN _⟩, by simp [intOf]; omega⟩
                | false =>
                  go_quiet (fail)
                  go_wp2_with (fail)
                  exact ⟨⟨j + 1, hjlt, rfl, by rw [HSN.out]; rfl, hX2.drewN _⟩, by simp [intOf]; omega⟩
              · have hje : j = ss.length := by omega
                subst hje
                rw [List.take_length]
                cases hx : (x == -1) with
                | true =>
                  obtain rfl := eq_of_beq hx
                  have hno := HA.out.1 rfl
                  have hse : ss = [] := by
                    cases ss with
                    | nil => rfl
                    | cons y ss =>
                      have := (HM.out y).1 List.mem_cons_self
                      rw [hno] at this; cases this
                  subst hse
                  go_wp2_with (fail)
                  exact ⟨⟨k + 1, hlt, rfl, hXr.trans hX2⟩, by simp [intOf]; omega⟩
                | false =>
                  have hin := (HM.out x).2 (HA.out.2 (by intro h; rw [h] at hx; simp at hx))
                  have hsp : 0 < ss.length := List.length_pos_of_mem hin
                  rw [mem_of_any.2 hin]
                  go_wp2_with (fail)
                  exact ⟨⟨k + 1, hlt, rfl, hXr.trans hX2⟩, by simp [intOf]; omega⟩
          · have hke : k = l.length := by omega
            subst hke
            go_wp2_with (fail)
            refine (known27_any wr).mono ?_
            rintro _ W7 ⟨rfl, hX7⟩
            go_wp2_with (fail)
            go_ret
            exact ⟨rfl, (hXW5.trans (hXr.trans hX7)).below⟩
end Go.Proofs.Ytlaflbepidkmnaa
