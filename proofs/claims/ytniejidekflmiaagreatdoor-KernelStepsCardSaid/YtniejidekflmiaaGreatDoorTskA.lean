/- Sets of tasks: may they be? -/
import Derived.Test.YtniejidekflmiaaGreatDoorProg
import Derived.Test.YtniejidekflmiaaGreatDoorBase
import Derived.Test.YtniejidekflmiaaGreatDoorHeldX
import Derived.Test.YtniejidekflmiaaGreatDoorLexM
import Derived.Test.YtniejidekflmiaaGreatDoorLex1
import Derived.Test.YtniejidekflmiaaGreatDoorTskM
import Derived.Test.YtniejidekflmiaaGreatDoorTsk1
import Derived.Test.YtniejidekflmiaaGreatDoorTsk2
import Derived.Test.YtniejidekflmiaaGreatDoorTsk3
import Derived.Test.YtniejidekflmiaaGreatDoorTsk4
import Derived.Test.YtniejidekflmiaaGreatDoorTskZ
import Derived.Test.YtniejidekflmiaaGreatDoorMapS
import Derived.BigQuiet
import Derived.Deep.QuietTactic
import Derived.Lib.Hide
import Derived.Deep.Cut
namespace Go.Proofs.YtniejidekflmiaaGreatDoor
open Go.RowKit
attribute [local go_sem] setCell_twice ByteArray.toList_eq str_list Ext.alloc Ext.drew
set_option linter.unusedSimpArgs false

/-- each may be at its place, none has a name that was there -/
def okL : List Tsk → Nat → List (List UInt8) → Bool
  | [], _, _ => true
  | t :: ts, i, seen => isB t i && (!decide (t.name.data.toList ∈ seen) && okL ts (i + 1) (seen ++ [t.name.data.toList]))
def allB (s : TSet) : Bool := (decide (s.reload ≥ 0) && decide (s.reload ≤ 10000)) && (decide (1 ≤ s.tasks.length) && (decide (s.tasks.length ≤ 8) && okL s.tasks 0 []))
def seenL (ts : List Tsk) (k : Nat) : List (List UInt8) := (ts.take k).map fun t => t.name.data.toList
theorem seen_step {ts : List Tsk} {k : Nat} (h : k < ts.length) : seenL ts (k + 1) = seenL ts k ++ [ts[k].name.data.toList] := by
  unfold seenL
  rw [List.take_succ_eq_append_getElem h, List.map_append]
  rfl
/-- so far all is well: the answer is the answer of what is left -/
def okAt (ts : List Tsk) (k : Nat) : Prop := okL ts 0 [] = okL (ts.drop k) k (seenL ts k)
theorem okAt_zero (ts : List Tsk) : okAt ts 0 := rfl
theorem okAt_step {ts : List Tsk} {k : Nat} (h : k < ts.length) (ho : okAt ts k) (hi : isB ts[k] k = true) (hn : decide (ts[k].name.data.toList ∈ seenL ts k) = false) : okAt ts (k + 1) := by
  unfold okAt at *
  rw [ho, List.drop_eq_getElem_cons h, okL, hi, hn, seen_step h]
  rfl
theorem okAt_not {ts : List Tsk} {k : Nat} (h : k < ts.length) (ho : okAt ts k) (hi : isB ts[k] k = false) : okL ts 0 [] = false := by
  rw [ho, List.drop_eq_getElem_cons h, okL, hi]
  rfl
theorem okAt_twice {ts : List Tsk} {k : Nat} (h : k < ts.length) (ho : okAt ts k) (hn : decide (ts[k].name.data.toList ∈ seenL ts k) = true) : okL ts 0 [] = false := by
  rw [ho, List.drop_eq_getElem_cons h, okL, hn]
  simp
theorem okAt_end {ts : List Tsk} (ho : okAt ts ts.length) : okL ts 0 [] = true := by
  rw [ho, List.drop_length]
  rfl
theorem allB_not {s : TSet} (h : okL s.tasks 0 [] = false) : allB s = false := by
  unfold allB
  rw [h]
  simp
theorem allB_out {s : TSet} (h : (!decide (0 ≤ s.reload) || !decide (s.reload ≤ 10000) || decide ((s.tasks.length : Int) < 1) || decide (8 < (s.tasks.length : Int))) = true) : allB s = false := by
  simp only [Bool.or_eq_true, Bool.not_eq_true', decide_eq_false_iff_not, decide_eq_true_eq] at h
  unfold allB
  rcases h with ((h | h) | h) | h
  · rw [decide_eq_false (p := s.reload ≥ 0) (by omega)]; rfl
  · rw [decide_eq_false (p := s.reload ≤ 10000) (by omega)]; simp
  · rw [decide_eq_false (p := 1 ≤ s.tasks.length) (by omega)]; simp
  · rw [decide_eq_false (p := s.tasks.length ≤ 8) (by omega)]; simp
theorem allB_in {s : TSet} (h : (!decide (0 ≤ s.reload) || !decide (s.reload ≤ 10000) || decide ((s.tasks.length : Int) < 1) || decide (8 < (s.tasks.length : Int))) = false) : allB s = okL s.tasks 0 [] ∧ s.tasks.length ≤ 8 := by
  simp only [Bool.or_eq_false_iff, Bool.not_eq_false', decide_eq_true_eq, decide_eq_false_iff_not] at h
  unfold allB
  rw [decide_eq_true (p := s.reload ≥ 0) (by omega), decide_eq_true (p := s.reload ≤ 10000) (by omega), decide_eq_true (p := 1 ≤ s.tasks.length) (by omega), decide_eq_true (p := s.tasks.length ≤ 8) (by omega)]
  exact ⟨by simp, by omega⟩

theorem mem_seen {ts : List Tsk} {j k : Nat} (hj : j < k) (hk : k ≤ ts.length) (n : List UInt8) (h : (ts[j]'(by omega)).name.data.toList = n) : decide (n ∈ seenL ts k) = true := by
  rw [decide_eq_true_eq, ← h]
  unfold seenL
  exact List.mem_map.2 ⟨_, List.mem_take_iff_getElem.2 ⟨j, by omega, rfl⟩, rfl⟩
/-- none of the first j has the name -/
def noneOf (ts : List Tsk) (j : Nat) (n : List UInt8) : Prop := decide (n ∈ seenL ts j) = false
theorem noneOf_step {ts : List Tsk} {j : Nat} (h : j < ts.length) {n : List UInt8} (h0 : noneOf ts j n) (h1 : ts[j].name.data.toList ≠ n) : noneOf ts (j + 1) n := by
  unfold noneOf at *
  rw [decide_eq_false_iff_not] at *
  rw [seen_step h, List.mem_append, List.mem_singleton]
  rintro (h2 | h2)
  · exact h0 h2
  · exact h1 h2.symm
theorem data_ne {a b : ByteArray} (h : (a.data == b.data) = false) : a.data.toList ≠ b.data.toList := fun e => by
  have : a.data = b.data := Array.ext' e
  rw [this] at h
  simp at h
theorem data_eq {a b : ByteArray} (h : (a.data == b.data) = true) : a.data.toList = b.data.toList := by
  rw [beq_iff_eq] at h
  rw [h]
theorem seen_fun (seen : List (List UInt8)) (n : List UInt8) : (fun l => decide (l ∈ seen ++ [n])) = fun l => decide (l ∈ seen) || decide (l = n) := by
  funext l
  simp only [List.mem_append, List.mem_singleton, Bool.decide_or]
theorem zeroBool (w : World) : (zeroValue 4).run Tryz.prog w = .ok (.bool false) w := by kernel_rfl
abbrev NSet (w : World) (B n : Nat) (S : List UInt8 → Bool) : Prop := SSet Tryz.prog 9 4 w B n S

set_option maxHeartbeats 6400000 in
set_option maxRecDepth 100000 in
theorem all_any (s : TSet) (v : Value) (w : World) (hv : Tasks w v s.tasks) (hs : s.good) (hG : GOK w) :
    Calls Tryz.prog 29 #[setV s v] w fun e w' => e = .returned (.bool (allB s)) ∧ Below w.heap.size w w' := by
  have l1 := hv.len
  have hv0 := hv
  obtain ⟨A, c, rfl, _, _, _⟩ := hv0
  have hmm := @run_makeMap Tryz.prog
  go_enter Tryz.func29, Tryz.ntmps29
  unfold setV
  go_upto_region 1 with (fail)
  have hL : Below w.heap.size w (w.alloc (.cells #[.int .i64 s.reload, (.slice A s.tasks.length c)] 24)) := (by repeat (first | exact Below.refl _ _ | assumption | refine Below.drew ?_ | refine Below.alloc ?_ (by first | (simp; done) | (simp; omega) | omega) _ | refine Below.setCell ?_ (by first | (simp; done) | (simp; omega) | omega) _)); have hB : Blk (w.alloc (.cells #[.int .i64 s.reload, (.slice A s.tasks.length c)] 24)) w.heap.size #[.int .i64 s.reload, (.slice A s.tasks.length c)] 24 := Blk.new _ _ _
  have hr := hv.ext ⟨hL⟩
  have hG0 := hG.below hL
  generalize w.alloc _ = W at hL hB hr hG0 ⊢
  have hc := hB.under
  refine wp_region_all' (S := Ext W) (Ext.refl W) (fun K hK => ?_); (repeat (first | (apply hO_and; (· rfl); (· rfl); (· rfl); (· rfl); simp only [Act.put, List.setIfInBounds_toArray, List.set_cons_zero, List.set_cons_succ]) | (apply hO_or; (· rfl); (· rfl); (· rfl); (· rfl); simp only [Act.put, List.setIfInBounds_toArray, List.set_cons_zero, List.set_cons_succ]) | (apply hO_off; (· rfl); (· rfl); simp only [Act.put, List.setIfInBounds_toArray, List.set_cons_zero, List.set_cons_succ]) | (apply hO_val; (· intro w hS; go_simp; with_reducible rfl); (· rfl); simp only [Act.put, List.setIfInBounds_toArray, List.set_cons_zero, List.set_cons_succ]) | (apply hO_call; (· rfl); (· intro w hS; go_simp; exact ⟨rfl, rfl⟩); (· intro w hS; exact callS hS (isTime_any _ _ _)); simp only [Act.put, List.setIfInBounds_toArray, List.set_cons_zero, List.set_cons_succ]) | (apply hO_if; (· rfl); (· rfl); (· intro hif w hS; go_simp; with_reducible rfl); simp only [Act.put, List.setIfInBounds_toArray, List.set_cons_zero, List.set_cons_succ]) | (apply hO_ifcall; (· rfl); (· rfl); (· intro hif w hS; go_simp; exact ⟨rfl, rfl⟩); (· intro hif w hS; exact callS hS (isTime_any _ _ _)); simp only [Act.put, List.setIfInBounds_toArray, List.set_cons_zero, List.set_cons_succ]))); refine hO_nil ?_; refine forget_range 6 15 (Nat.le_of_ble_eq_true rfl) (fun junk => ?_); simp only [List.take_succ_cons, List.take_zero, List.drop_succ_cons, List.drop_zero, List.cons_append, List.nil_append, fillF, Nat.reduceAdd]; refine hK _ ?_; clear hK K
  intro w1 hX1
  cases hb : (!decide (0 ≤ s.reload) || !decide (s.reload ≤ 10000) || decide ((s.tasks.length : Int) < 1) || decide (8 < (s.tasks.length : Int))) with
  | true =>
    have HB := Lib.hid (allB_out hb)
    clear hb
    go_wp2_with (fail)
    go_ret
    exact ⟨by rw [HB.out]; rfl, hL.trans (hX1.below.mono hL.size)⟩
  | false =>
    have hb2 := allB_in hb
    have HB := Lib.hid hb2.1
    have h8 := hb2.2
    clear hb hb2
    go_wp2_with (fail)
    have hM := SSet.made w1 Tryz.prog 9 4
    have hX2 : Ext W (w1.alloc (.map #[] 0)) := hX1.alloc _
    have hMW : W.heap.size ≤ w1.heap.size := hX1.size
    generalize w1.heap.size = B at hM hMW ⊢
    generalize w1.alloc (.map #[] 0) = w2 at hM hX2 ⊢
    go_loopw [26] (fun i wr => ∃ k : Nat, k ≤ s.tasks.length ∧ i = .int .i64 k ∧ Hid (okAt s.tasks k) ∧ Ext W wr ∧ NSet wr B k (fun l => decide (l ∈ seenL s.tasks k))) (fun i _ => s.tasks.length - (intOf i).toNat)
    case atStart => exact ⟨0, Nat.zero_le _, rfl, Lib.hid (okAt_zero _), hX2, hM⟩
    case round =>
      obtain ⟨k, hk, rfl, HO, hX, hN⟩ := hrel
      by_cases hlt : k < s.tasks.length
      · obtain ⟨b, o, r, rfl, hx⟩ := hr.at hlt
        have h1 := fun e => okAt_step hlt HO.out e
        have h2 := fun e => okAt_not hlt HO.out e
        have h3 := fun e => okAt_twice hlt HO.out e
        have h4 := seen_step hlt
        have h5 := hs _ (List.getElem_mem hlt)
        generalize s.tasks[k] = x at hx h1 h2 h3 h4 h5
        have H1 := Lib.hid h1; clear h1
        have H2 := Lib.hid h2; clear h2
        have H3 := Lib.hid h3; clear h3
        have H4 := Lib.hid h4; clear h4
        generalize seenL s.tasks k = seen at H1 H3 H4 hN
        obtain ⟨Ax, cx, rfl⟩ := hx.row
        obtain ⟨x0, x1, x2, x3, x4, x5, x6, x7, x8⟩ := hx.under
        go_wp2_with (fail)
        have hE := (Ext.refl wr).alloc (.cells #[.string x.name, .int .i64 x.T, .int .i64 x.D, .int .i64 x.mode, .int .i64 x.q, .int .i64 x.theta, (.slice Ax x.regs.length cx), .int .u64 x.ecb, .int .u64 x.ucb] 38)
        have hX3 := hX.trans hE
        have hN3 := hN.ext hE
        have hB3 : Blk (wr.alloc (.cells #[.string x.name, .int .i64 x.T, .int .i64 x.D, .int .i64 x.mode, .int .i64 x.q, .int .i64 x.theta, (.slice Ax x.regs.length cx), .int .u64 x.ecb, .int .u64 x.ucb] 38)) wr.heap.size #[.string x.name, .int .i64 x.T, .int .i64 x.D, .int .i64 x.mode, .int .i64 x.q, .int .i64 x.theta, (.slice Ax x.regs.length cx), .int .u64 x.ecb, .int .u64 x.ucb] 38 := Blk.new _ _ _
        refine (is_any x _ k _ (hx.1.ext hX3) h5 (hG0.below hX3.below)).mono ?_
        rintro e w3 ⟨rfl, hb⟩
        have hX4 := hX3.call hb
        have hN4 := hN3.ext ⟨hb⟩
        have hB4 := hB3.ext ⟨hb⟩
        have hc4 := hB4.cell
        clear hb hB3 hN3 hX3 hE hN hX
        cases hi : isB x k with
        | false =>
          have h2 := Lib.hid (allB_not (H2.out hi))
          go_wp2_with (fail)
          go_ret
          exact ⟨by rw [h2.out]; rfl, hL.trans (hX4.below.mono hL.size)⟩
        | true =>
          have hlook := hN4.look Tryz.underlying9 Tryz.underlying4 Tryz.underlying113 (zeroBool _) h5
          cases hn : decide (x.name.data.toList ∈ seen) with
          | true =>
            rw [hn] at hlook
            have h2 := Lib.hid (allB_not (H3.out hn))
            go_wp2_with (fail)
            go_ret
            exact ⟨by rw [h2.out]; rfl, hL.trans (hX4.below.mono hL.size)⟩
          | false =>
            rw [hn] at hlook
            have h2 := H1.out hi hn
            have HO2 := Lib.hid h2; clear h2
            have h6 : k < maxLen := by unfold maxLen; omega
            go_wp2_with (at_mapUpdate; refine wpList_put_set rfl _ _ _ rfl Tryz.underlying9 Tryz.underlying4 Tryz.underlying113 rfl h6 _ h5 rfl rfl hN4 ?_; intro w4 hN5 hg5)
            exact ⟨⟨k + 1, hlt, rfl, HO2, hX4.grown hg5 (fun j hj => by cases hj; exact hMW), by rw [H4.out, seen_fun]; exact hN5⟩, by simp [intOf]; omega⟩
      · obtain rfl : k = s.tasks.length := by omega
        go_wp2_with (fail)
        go_ret
        exact ⟨by rw [HB.out, okAt_end HO.out]; rfl, hL.trans (hX.below.mono hL.size)⟩

set_option maxHeartbeats 6400000 in
set_option maxRecDepth 100000 in
theorem allR_any (s : TSet) (v : Value) (w : World) (hv : Tasks w v s.tasks) (hs : s.good) :
    Calls Tryz.prog 6 #[setV s v] w fun e w' => e = .returned (.bool (allB s)) ∧ Below w.heap.size w w' := by
  have l1 := hv.len
  have hv0 := hv
  obtain ⟨A, c, rfl, _, _, _⟩ := hv0
  go_enter Tryz.func6, Tryz.ntmps6
  unfold setV
  go_upto_region 1 with (fail)
  have hL : Below w.heap.size w (w.alloc (.cells #[.int .i64 s.reload, (.slice A s.tasks.length c)] 24)) := (by repeat (first | exact Below.refl _ _ | assumption | refine Below.drew ?_ | refine Below.alloc ?_ (by first | (simp; done) | (simp; omega) | omega) _ | refine Below.setCell ?_ (by first | (simp; done) | (simp; omega) | omega) _)); have hB : Blk (w.alloc (.cells #[.int .i64 s.reload, (.slice A s.tasks.length c)] 24)) w.heap.size #[.int .i64 s.reload, (.slice A s.tasks.length c)] 24 := Blk.new _ _ _
  have hr := hv.ext ⟨hL⟩
  generalize w.alloc _ = W at hL hB hr ⊢
  have hc := hB.under
  refine wp_region_all' (S := Ext W) (Ext.refl W) (fun K hK => ?_); (repeat (first | (apply hO_and; (· rfl); (· rfl); (· rfl); (· rfl); simp only [Act.put, List.setIfInBounds_toArray, List.set_cons_zero, List.set_cons_succ]) | (apply hO_or; (· rfl); (· rfl); (· rfl); (· rfl); simp only [Act.put, List.setIfInBounds_toArray, List.set_cons_zero, List.set_cons_succ]) | (apply hO_off; (· rfl); (· rfl); simp only [Act.put, List.setIfInBounds_toArray, List.set_cons_zero, List.set_cons_succ]) | (apply hO_val; (· intro w hS; go_simp; with_reducible rfl); (· rfl); simp only [Act.put, List.setIfInBounds_toArray, List.set_cons_zero, List.set_cons_succ]) | (apply hO_call; (· rfl); (· intro w hS; go_simp; exact ⟨rfl, rfl⟩); (· intro w hS; exact callS hS (in_any _ _ _ _)); simp only [Act.put, List.setIfInBounds_toArray, List.set_cons_zero, List.set_cons_succ]) | (apply hO_if; (· rfl); (· rfl); (· intro hif w hS; go_simp; with_reducible rfl); simp only [Act.put, List.setIfInBounds_toArray, List.set_cons_zero, List.set_cons_succ]) | (apply hO_ifcall; (· rfl); (· rfl); (· intro hif w hS; go_simp; exact ⟨rfl, rfl⟩); (· intro hif w hS; exact callS hS (in_any _ _ _ _)); simp only [Act.put, List.setIfInBounds_toArray, List.set_cons_zero, List.set_cons_succ]))); refine hO_nil ?_; refine forget_range 5 15 (Nat.le_of_ble_eq_true rfl) (fun junk => ?_); simp only [List.take_succ_cons, List.take_zero, List.drop_succ_cons, List.drop_zero, List.cons_append, List.nil_append, fillF, Nat.reduceAdd]; refine hK _ ?_; clear hK K
  intro w1 hX1
  cases hb : (!decide (0 ≤ s.reload) || !decide (s.reload ≤ 10000) || decide ((s.tasks.length : Int) < 1) || decide (8 < (s.tasks.length : Int))) with
  | true =>
    have HB := Lib.hid (allB_out hb)
    clear hb
    go_wp2_with (fail)
    go_ret
    exact ⟨by rw [HB.out]; rfl, hL.trans (hX1.below.mono hL.size)⟩
  | false =>
    have hb2 := allB_in hb
    have HB := Lib.hid hb2.1
    clear hb hb2
    go_wp2_with (fail)
    go_loopw [3] (fun i wr => ∃ k : Nat, k ≤ s.tasks.length ∧ i = .int .i64 k ∧ Hid (okAt s.tasks k) ∧ Ext W wr) (fun i _ => s.tasks.length - (intOf i).toNat)
    case atStart => exact ⟨0, Nat.zero_le _, rfl, Lib.hid (okAt_zero _), hX1⟩
    case round =>
      obtain ⟨k, hk, rfl, HO, hX⟩ := hrel
      by_cases hlt : k < s.tasks.length
      · obtain ⟨b, o, r, rfl, hx⟩ := hr.at hlt
        have h1 := fun e => okAt_step hlt HO.out e
        have h2 := fun e => okAt_not hlt HO.out e
        have h3 := fun e => okAt_twice hlt HO.out e
        have h5 := hs _ (List.getElem_mem hlt)
        generalize s.tasks[k] = x at hx h1 h2 h3 h5
        have H1 := Lib.hid h1; clear h1
        have H2 := Lib.hid h2; clear h2
        have H3 := Lib.hid h3; clear h3
        obtain ⟨Ax, cx, rfl⟩ := hx.row
        obtain ⟨x0, x1, x2, x3, x4, x5, x6, x7, x8⟩ := hx.under
        go_wp2_with (fail)
        refine (isR_any x _ k _ (hx.1.ext hX) h5).mono ?_
        rintro e w3 ⟨rfl, hb⟩
        have hX4 := hX.call hb
        clear hb hX
        cases hi : isB x k with
        | false =>
          have h2 := Lib.hid (allB_not (H2.out hi))
          go_wp2_with (fail)
          go_ret
          exact ⟨by rw [h2.out]; rfl, hL.trans (hX4.below.mono hL.size)⟩
        | true =>
          have HI := Lib.hid hi; clear hi
          go_wp2_with (fail)
          go_loopw [4] (fun i wr => ∃ j : Nat, j ≤ k ∧ i = .int .i64 j ∧ Hid (noneOf s.tasks j x.name.data.toList) ∧ Ext W wr) (fun i _ => k - (intOf i).toNat)
          case atStart => exact ⟨0, Nat.zero_le _, rfl, Lib.hid rfl, hX4⟩
          case round =>
            obtain ⟨j, hj, rfl, HN, hX⟩ := hrel
            by_cases hjk : j < k
            · have hjl : j < s.tasks.length := by omega
              obtain ⟨b', o', r', e, hy⟩ := hr.at hjl
              obtain ⟨rfl, rfl⟩ : b = b' ∧ o = o' := by simpa using e
              have hm := fun h => mem_seen hjk hk x.name.data.toList h
              have hn := fun h => noneOf_step hjl HN.out h
              generalize s.tasks[j] = y at hy hm hn
              have HM := Lib.hid hm; clear hm
              have HS := Lib.hid hn; clear hn e
              have y0 := hy.under.1
              go_upto_region 11 with (fail)
              refine wp_region_all (S := Ext W) (by kernel_rfl) (by kernel_rfl) hX.drew (fun K hK => ?_); (repeat (first | (apply hO_and; (· rfl); (· rfl); (· rfl); (· rfl); simp only [Act.put, List.setIfInBounds_toArray, List.set_cons_zero, List.set_cons_succ]) | (apply hO_or; (· rfl); (· rfl); (· rfl); (· rfl); simp only [Act.put, List.setIfInBounds_toArray, List.set_cons_zero, List.set_cons_succ]) | (apply hO_off; (· rfl); (· rfl); simp only [Act.put, List.setIfInBounds_toArray, List.set_cons_zero, List.set_cons_succ]) | (apply hO_val; (· intro w hS; go_simp; with_reducible rfl); (· rfl); simp only [Act.put, List.setIfInBounds_toArray, List.set_cons_zero, List.set_cons_succ]) | (apply hO_call; (· rfl); (· intro w hS; go_simp; exact ⟨rfl, rfl⟩); (· intro w hS; fail); simp only [Act.put, List.setIfInBounds_toArray, List.set_cons_zero, List.set_cons_succ]) | (apply hO_if; (· rfl); (· rfl); (· intro hif w hS; go_simp; with_reducible rfl); simp only [Act.put, List.setIfInBounds_toArray, List.set_cons_zero, List.set_cons_succ]) | (apply hO_ifcall; (· rfl); (· rfl); (· intro hif w hS; go_simp; exact ⟨rfl, rfl⟩); (· intro hif w hS; fail); simp only [Act.put, List.setIfInBounds_toArray, List.set_cons_zero, List.set_cons_succ]))); refine hO_nil ?_; refine forget_range 41 12 (Nat.le_of_ble_eq_true rfl) (fun junk => ?_); simp only [List.take_succ_cons, List.take_zero, List.drop_succ_cons, List.drop_zero, List.cons_append, List.nil_append, fillF, Nat.reduceAdd]; refine hK _ ?_; clear hK K
              intro w5 hX5
              cases hd : y.name.data == x.name.data with
              | true =>
                have h2 := Lib.hid (allB_not (H3.out (HM.out (data_eq hd))))
                clear hd
                go_wp2_with (fail)
                go_ret
                exact ⟨by rw [h2.out]; rfl, hL.trans (hX5.below.mono hL.size)⟩
              | false =>
                have h2 := Lib.hid (HS.out (data_ne hd))
                clear hd
                go_wp2_with (fail)
                exact ⟨⟨j + 1, hjk, rfl, h2, hX5⟩, by simp [intOf]; omega⟩
            · obtain rfl : j = k := by omega
              have h2 := Lib.hid (H1.out HI.out HN.out)
              go_wp2_with (fail)
              exact ⟨⟨j + 1, hlt, rfl, h2, hX⟩, by simp [intOf]; omega⟩
      · obtain rfl : k = s.tasks.length := by omega
        go_wp2_with (fail)
        go_ret
        exact ⟨by rw [HB.out, okAt_end HO.out]; rfl, hL.trans (hX.below.mono hL.size)⟩
end Go.Proofs.YtniejidekflmiaaGreatDoor
