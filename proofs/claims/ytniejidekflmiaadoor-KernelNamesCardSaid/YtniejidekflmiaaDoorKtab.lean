/- Tables of jobs. -/
import Derived.Test.YtniejidekflmiaaDoorProg
import Derived.Test.YtniejidekflmiaaDoorBase
import Derived.Test.YtniejidekflmiaaDoorHeldX
import Derived.Test.YtniejidekflmiaaDoorApp
import Derived.Test.YtniejidekflmiaaDoorExt0
import Derived.Test.YtniejidekflmiaaDoorChg
import Derived.Test.YtniejidekflmiaaDoorRowB
import Derived.Test.YtniejidekflmiaaDoorKM
import Derived.Test.YtniejidekflmiaaDoorKP1
import Derived.Test.YtniejidekflmiaaDoorOpenI
import Derived.Lib.BufferMore
import Derived.Deep.Cut
import Derived.Lib.Hide
import Derived.OwnWalk
import Derived.Maps.AppendAt
import Derived.Deep.DeepMust
namespace Go.Proofs.YtniejidekflmiaaDoor
open Go.RowKit
attribute [local go_sem] setCell_twice ByteArray.toList_eq str_list Ext.alloc Ext.drew
set_option linter.unusedSimpArgs false
set_option maxRecDepth 100000
set_option maxHeartbeats 400000
attribute [local irreducible] Calls

def encSt (x : St) : List Value := [.bool x.pend, .bool x.start, .bool x.mid, .int .i64 x.arr]
theorem encSt_len (x : St) : (encSt x).length = 4 := rfl
def stV (x : St) : Value := .agg #[.bool x.pend, .bool x.start, .bool x.mid, .int .i64 x.arr]
/-- a table at gt, its row at g; ty: the table's type -/
structure TabAt (ty : TypeId) (w : World) (gt g : Nat) (tab : List St) : Prop where
  box : Blk w gt #[.slice (some ⟨g, 0, none⟩) tab.length tab.length] ty
  row : RowBk encSt w g 108 tab
  len : tab.length ≤ 8
theorem TabAt.ext {ty : TypeId} {w w' : World} {gt g : Nat} {tab : List St} (h : TabAt ty w gt g tab) (hx : Ext w w') : TabAt ty w' gt g tab := ⟨h.box.ext hx, h.row.ext hx, h.len⟩
theorem TabAt.chg {ty : TypeId} {F : Nat → Prop} {w w' : World} {gt g : Nat} {tab : List St} (h : TabAt ty w gt g tab) (hx : Chg F w w') (h1 : ¬ F gt) (h2 : ¬ F g) : TabAt ty w' gt g tab := ⟨h.box.chg hx h1, h.row.chg hx h2, h.len⟩
theorem TabAt.cells {ty : TypeId} {w : World} {gt g : Nat} {tab : List St} (h : TabAt ty w gt g tab) {i : Nat} (hi : i < tab.length) :
    w.cell? ⟨g, i * 4, none⟩ = some (.bool (stAt tab i).pend) ∧ w.cell? ⟨g, i * 4 + 1, none⟩ = some (.bool (stAt tab i).start) ∧ w.cell? ⟨g, i * 4 + 2, none⟩ = some (.bool (stAt tab i).mid) ∧ w.cell? ⟨g, i * 4 + 3, none⟩ = some (.int .i64 (stAt tab i).arr) := by
  have e : stAt tab i = tab[i] := by unfold stAt; rw [getD_at hi]
  rw [e]
  have h0 := h.row.at encSt_len (i := i) (j := 0) hi (by decide)
  have h1 := h.row.at encSt_len (i := i) (j := 1) hi (by decide)
  have h2 := h.row.at encSt_len (i := i) (j := 2) hi (by decide)
  have h3 := h.row.at encSt_len (i := i) (j := 3) hi (by decide)
  exact ⟨h0, h1, h2, h3⟩
/-- has a task a job? -/
def hasB (tab : List St) (i : Int) : Bool := decide (0 ≤ i) && (stAt tab i.toNat).pend
theorem hasB_nat (tab : List St) (i : Nat) : hasB tab i = (stAt tab i).pend := by
  unfold hasB
  rw [decide_eq_true (by omega), Int.toNat_natCast, Bool.true_and]
theorem hasB_neg (tab : List St) {i : Int} (h : i < 0) : hasB tab i = false := by
  unfold hasB
  rw [decide_eq_false (by omega)]
  rfl
theorem int_cases (i : Int) (n : Nat) : i < 0 ∨ (∃ k : Nat, i = k ∧ k < n) ∨ ∃ k : Nat, i = k ∧ n ≤ k := by
  rcases Int.lt_or_le i 0 with h | h
  · exact .inl h
  · obtain ⟨k, rfl⟩ := Int.eq_ofNat_of_zero_le h
    rcases Nat.lt_or_ge k n with h2 | h2
    · exact .inr (.inl ⟨k, rfl, h2⟩)
    · exact .inr (.inr ⟨k, rfl, h2⟩)
theorem has_tab (gt g : Nat) (tab : List St) (i : Int) (w : World) (h : TabAt 100 w gt g tab) :
    Calls Tryd.prog 77 #[.pointer (some ⟨gt, 0, none⟩), .int .i64 i] w fun e w' => e = .returned (.bool (hasB tab i)) ∧ w = w' := by
  have hc := h.box.cell
  have hl := h.len
  rcases int_cases i tab.length with hi | ⟨k, rfl, hk⟩ | ⟨k, rfl, hk⟩
  · have HE := Lib.hid (hasB_neg tab hi)
    have hd : decide (0 ≤ i) = false := decide_eq_false (by omega)
    go_enter Tryd.func77, Tryd.ntmps77
    go_wp2_with (fail)
    go_ret
    exact ⟨by rw [HE.out]; rfl, by first | trivial | rfl⟩
  · have HE := Lib.hid (hasB_nat tab k)
    obtain ⟨h0, h1, h2, h3⟩ := h.cells hk
    clear h1 h2 h3
    generalize (stAt tab k).pend = p at h0 HE
    go_enter Tryd.func77, Tryd.ntmps77
    go_wp2_with (fail)
    go_ret
    exact ⟨by rw [HE.out]; rfl, by first | trivial | rfl⟩
  · have HE := Lib.hid (show hasB tab k = false by rw [hasB_nat, stAt_out hk]; rfl)
    go_enter Tryd.func77, Tryd.ntmps77
    go_wp2_with (fail)
    go_ret
    exact ⟨by rw [HE.out]; rfl, by first | trivial | rfl⟩
theorem state_tab (gt g : Nat) (tab : List St) (i : Int) (w : World) (h : TabAt 100 w gt g tab) :
    Calls Tryd.prog 50 #[.pointer (some ⟨gt, 0, none⟩), .int .i64 i] w fun e w' => e = .returned (stV (bif hasB tab i then stAt tab i.toNat else St.zero)) ∧ Below w.heap.size w w' := by
  have hA := (Ext.refl w).alloc (.cells #[.bool false, .bool false, .bool false, .int .i64 0] 108)
  have hH := has_tab gt g tab i _ (h.ext hA)
  have hc := h.box.cell
  have hl := h.len
  cases hb : hasB tab i with
  | false =>
    rw [hb] at hH
    have HH := Lib.hid hH
    clear hH hb
    go_enter Tryd.func50, Tryd.ntmps50
    go_wp2_with (fail)
    refine HH.out.mono ?_
    rintro e w1 ⟨rfl, rfl⟩
    go_wp2_with (fail)
    refine bodyPost_ret (v := stV St.zero) (by simp [stV, St.zero, results, Tryd.results50, go_sem, *]) rfl ⟨rfl, ?_⟩
    exact (by repeat (first | exact Below.refl _ _ | assumption | refine Below.drew ?_ | refine Below.alloc ?_ (by first | (simp; done) | (simp; omega) | omega) _ | refine Below.setCell ?_ (by first | (simp; done) | (simp; omega) | omega) _))
  | true =>
    obtain ⟨k, rfl, hk⟩ : ∃ k : Nat, i = k ∧ k < tab.length := by
      rcases int_cases i tab.length with hi | h | ⟨k, rfl, hk⟩
      · rw [hasB_neg tab hi] at hb; cases hb
      · exact h
      · rw [hasB_nat, stAt_out hk] at hb; cases hb
    rw [hb] at hH
    have HH := Lib.hid hH
    obtain ⟨h0, h1, h2, h3⟩ := (h.ext hA).cells hk
    have hc2 := (h.ext hA).box.cell
    rw [Int.toNat_natCast]
    clear hH hb hc
    obtain ⟨x, hx⟩ : ∃ x, x = stAt tab k := ⟨_, rfl⟩
    rw [← hx] at h0 h1 h2 h3 ⊢
    have HX := Lib.hid hx
    clear hx
    go_enter Tryd.func50, Tryd.ntmps50
    go_wp2_with (fail)
    refine HH.out.mono ?_
    rintro e w1 ⟨rfl, rfl⟩
    go_wp2_with (fail)
    refine bodyPost_ret (v := stV x) (by simp [stV, results, Tryd.results50, go_sem, *]) rfl ⟨rfl, ?_⟩
    exact (by repeat (first | exact Below.refl _ _ | assumption | refine Below.drew ?_ | refine Below.alloc ?_ (by first | (simp; done) | (simp; omega) | omega) _ | refine Below.setCell ?_ (by first | (simp; done) | (simp; omega) | omega) _))
/-- task k's state turned, if it has a job -/
def modT (tab : List St) (k : Nat) (f : St → St) : List St := if (stAt tab k).pend = true then tab.set k (f (stAt tab k)) else tab
theorem modT_on {tab : List St} {k : Nat} (f : St → St) (h : (stAt tab k).pend = true) : modT tab k f = tab.set k (f (stAt tab k)) := if_pos h
theorem modT_off {tab : List St} {k : Nat} (f : St → St) (h : (stAt tab k).pend = false) : modT tab k f = tab := if_neg (by rw [h]; simp)
theorem row_all {w : World} {g : Nat} {tab : List St} (h : RowBk encSt w g 108 tab) {k : Nat} (hk : k < tab.length) (x : St) :
    RowBk encSt ((((w.setCell ⟨g, k * 4, none⟩ (.bool x.pend)).setCell ⟨g, k * 4 + 1, none⟩ (.bool x.start)).setCell ⟨g, k * 4 + 2, none⟩ (.bool x.mid)).setCell ⟨g, k * 4 + 3, none⟩ (.int .i64 x.arr)) g 108 (tab.set k x) := by
  have a0 := h.set encSt_len (i := k) (j := 0) (u := .bool x.pend) (x' := { tab[k] with pend := x.pend }) (by decide) (fun _ => rfl)
  have a1 := a0.set encSt_len (i := k) (j := 1) (u := .bool x.start) (x' := { tab[k] with pend := x.pend, start := x.start }) (by decide) (fun _ => by rw [List.getElem_set_self]; rfl)
  have a2 := a1.set encSt_len (i := k) (j := 2) (u := .bool x.mid) (x' := { tab[k] with pend := x.pend, start := x.start, mid := x.mid }) (by decide) (fun _ => by rw [List.getElem_set_self]; rfl)
  have a3 := a2.set encSt_len (i := k) (j := 3) (u := .int .i64 x.arr) (x' := x) (by decide) (fun _ => by rw [List.getElem_set_self]; rfl)
  simp only [List.set_set] at a3
  exact a3
theorem begin_tab (gt g : Nat) (tab : List St) (k : Nat) (w : World) (h : TabAt 100 w gt g tab) (hk : k < tab.length) :
    Calls Tryd.prog 61 #[.pointer (some ⟨gt, 0, none⟩), .int .i64 k] w fun e w' => e = .returned (.bool (stAt tab k).pend) ∧ TabAt 100 w' gt g (modT tab k (fun x => { x with start := true })) ∧ Chg (fun q => q = g) w w' := by
  have hH := has_tab gt g tab k w h
  rw [hasB_nat] at hH
  have hc := h.box.cell
  have hf := h.row.free
  have hl := h.len
  have he : stAt tab k = tab[k] := by unfold stAt; rw [getD_at hk]
  have hne : gt ≠ g := h.box.apart (show Blk w g _ _ from h.row) (by decide)
  cases hb : (stAt tab k).pend with
  | false =>
    rw [hb] at hH
    have HH := Lib.hid hH
    have HM := Lib.hid (modT_off (fun x => { x with start := true }) hb)
    clear hH hb he
    go_enter Tryd.func61, Tryd.ntmps61
    go_wp2_with (fail)
    refine HH.out.mono ?_
    rintro e w1 ⟨rfl, rfl⟩
    go_wp2_with (fail)
    go_ret
    exact ⟨rfl, by rw [HM.out]; exact h, Chg.refl _ _⟩
  | true =>
    rw [hb] at hH
    have HH := Lib.hid hH
    have HM := Lib.hid (modT_on (fun x => { x with start := true }) hb)
    have HE := Lib.hid he
    obtain ⟨h0, h1, h2, h3⟩ := h.cells hk
    have H := Lib.hid h
    clear hH hb he h
    generalize (stAt tab k).pend = q0 at h0
    generalize (stAt tab k).start = q1 at h1
    generalize (stAt tab k).mid = q2 at h2
    generalize (stAt tab k).arr = q3 at h3
    go_enter Tryd.func61, Tryd.ntmps61
    go_wp2_with (fail)
    refine HH.out.mono ?_
    rintro e w1 ⟨rfl, rfl⟩
    go_wp2_with (fail)
    go_ret
    refine ⟨rfl, ?_, ?_⟩
    · rw [HM.out]
      refine ⟨?_, ?_, by rw [List.length_set]; exact H.out.len⟩
      · rw [List.length_set]
        exact H.out.box.far (p := ⟨g, k * 4 + 1, none⟩) hne _
      · exact H.out.row.set encSt_len (j := 1) (by decide) (fun _ => by rw [HE.out]; rfl)
    · exact (Chg.refl (fun q => q = g) w).set (.inl rfl) _
theorem mid_tab (gt g : Nat) (tab : List St) (k : Nat) (b : Bool) (w : World) (h : TabAt 100 w gt g tab) (hk : k < tab.length) :
    Calls Tryd.prog 65 #[.pointer (some ⟨gt, 0, none⟩), .int .i64 k, .bool b] w fun e w' => e = .returned (.bool (stAt tab k).pend) ∧ TabAt 100 w' gt g (modT tab k (fun x => { x with mid := b })) ∧ Chg (fun q => q = g) w w' := by
  have hH := has_tab gt g tab k w h
  rw [hasB_nat] at hH
  have hc := h.box.cell
  have hf := h.row.free
  have hl := h.len
  have he : stAt tab k = tab[k] := by unfold stAt; rw [getD_at hk]
  have hne : gt ≠ g := h.box.apart (show Blk w g _ _ from h.row) (by decide)
  cases hb : (stAt tab k).pend with
  | false =>
    rw [hb] at hH
    have HH := Lib.hid hH
    have HM := Lib.hid (modT_off (fun x => { x with mid := b }) hb)
    clear hH hb he
    go_enter Tryd.func65, Tryd.ntmps65
    go_wp2_with (fail)
    refine HH.out.mono ?_
    rintro e w1 ⟨rfl, rfl⟩
    go_wp2_with (fail)
    go_ret
    exact ⟨rfl, by rw [HM.out]; exact h, Chg.refl _ _⟩
  | true =>
    rw [hb] at hH
    have HH := Lib.hid hH
    have HM := Lib.hid (modT_on (fun x => { x with mid := b }) hb)
    have HE := Lib.hid he
    obtain ⟨h0, h1, h2, h3⟩ := h.cells hk
    have H := Lib.hid h
    clear hH hb he h
    generalize (stAt tab k).pend = q0 at h0
    generalize (stAt tab k).start = q1 at h1
    generalize (stAt tab k).mid = q2 at h2
    generalize (stAt tab k).arr = q3 at h3
    go_enter Tryd.func65, Tryd.ntmps65
    go_wp2_with (fail)
    refine HH.out.mono ?_
    rintro e w1 ⟨rfl, rfl⟩
    go_wp2_with (fail)
    go_ret
    refine ⟨rfl, ?_, ?_⟩
    · rw [HM.out]
      refine ⟨?_, ?_, by rw [List.length_set]; exact H.out.len⟩
      · rw [List.length_set]
        exact H.out.box.far (p := ⟨g, k * 4 + 2, none⟩) hne _
      · exact H.out.row.set encSt_len (j := 2) (by decide) (fun _ => by rw [HE.out]; rfl)
    · exact (Chg.refl (fun q => q = g) w).set (.inl rfl) _
theorem drop_tab (gt g : Nat) (tab : List St) (k : Nat) (w : World) (h : TabAt 100 w gt g tab) (hk : k < tab.length) :
    Calls Tryd.prog 68 #[.pointer (some ⟨gt, 0, none⟩), .int .i64 k] w fun e w' => e = .returned (.bool (stAt tab k).pend) ∧ TabAt 100 w' gt g (modT tab k (fun _ => St.zero)) ∧ Chg (fun q => q = g) w w' := by
  have hH := has_tab gt g tab k w h
  rw [hasB_nat] at hH
  have hc := h.box.cell
  have hf := h.row.free
  have hl := h.len
  have he : stAt tab k = tab[k] := by unfold stAt; rw [getD_at hk]
  have hne : gt ≠ g := h.box.apart (show Blk w g _ _ from h.row) (by decide)
  cases hb : (stAt tab k).pend with
  | false =>
    rw [hb] at hH
    have HH := Lib.hid hH
    have HM := Lib.hid (modT_off (fun _ => St.zero) hb)
    clear hH hb he
    go_enter Tryd.func68, Tryd.ntmps68
    go_wp2_with (fail)
    refine HH.out.mono ?_
    rintro e w1 ⟨rfl, rfl⟩
    go_wp2_with (fail)
    go_ret
    exact ⟨rfl, by rw [HM.out]; exact h, Chg.refl _ _⟩
  | true =>
    rw [hb] at hH
    have HH := Lib.hid hH
    have HM := Lib.hid (modT_on (fun _ => St.zero) hb)
    have HE := Lib.hid he
    obtain ⟨h0, h1, h2, h3⟩ := h.cells hk
    have H := Lib.hid h
    clear hH hb he h
    generalize (stAt tab k).pend = q0 at h0
    generalize (stAt tab k).start = q1 at h1
    generalize (stAt tab k).mid = q2 at h2
    generalize (stAt tab k).arr = q3 at h3
    go_enter Tryd.func68, Tryd.ntmps68
    go_wp2_with (fail)
    refine HH.out.mono ?_
    rintro e w1 ⟨rfl, rfl⟩
    go_wp2_with (fail)
    go_ret
    refine ⟨rfl, ?_, ?_⟩
    · rw [HM.out]
      refine ⟨?_, ?_, by rw [List.length_set]; exact H.out.len⟩
      · rw [List.length_set]
        exact (((H.out.box.far (p := ⟨g, k * 4, none⟩) hne _).far (p := ⟨g, k * 4 + 1, none⟩) hne _).far (p := ⟨g, k * 4 + 2, none⟩) hne _).far (p := ⟨g, k * 4 + 3, none⟩) hne _
      · exact row_all H.out.row hk St.zero
    · exact ((((Chg.refl (fun q => q = g) w).set (.inl rfl) _).set (.inl rfl) _).set (.inl rfl) _).set (.inl rfl) _
theorem put_tab (gt g : Nat) (tab : List St) (k : Nat) (tick : Int) (w : World) (h : TabAt 100 w gt g tab) (hk : k < tab.length) :
    Calls Tryd.prog 53 #[.pointer (some ⟨gt, 0, none⟩), .int .i64 k, .int .i64 tick] w fun e w' => e = .returned (.bool (!(stAt tab k).pend)) ∧ TabAt 100 w' gt g (if (stAt tab k).pend = true then tab else tab.set k ⟨true, false, false, tick⟩) ∧ Chg (fun q => q = g) w w' := by
  have hH := has_tab gt g tab k w h
  rw [hasB_nat] at hH
  have hc := h.box.cell
  have hf := h.row.free
  have hl := h.len
  have hne : gt ≠ g := h.box.apart (show Blk w g _ _ from h.row) (by decide)
  have hd : decide ((tab.length : Int) ≤ (k : Int)) = false := decide_eq_false (by omega)
  cases hb : (stAt tab k).pend with
  | true =>
    rw [hb] at hH
    have HH := Lib.hid hH
    have H := Lib.hid h
    rw [if_pos rfl]
    clear hH hb h
    go_enter Tryd.func53, Tryd.ntmps53
    go_wp2_with (fail)
    refine HH.out.mono ?_
    rintro e w1 ⟨rfl, rfl⟩
    go_wp2_with (fail)
    go_ret
    exact ⟨rfl, H.out, Chg.refl _ _⟩
  | false =>
    rw [hb] at hH
    have HH := Lib.hid hH
    obtain ⟨h0, h1, h2, h3⟩ := h.cells hk
    have H := Lib.hid h
    rw [if_neg (by decide)]
    clear hH hb h
    generalize (stAt tab k).pend = q0 at h0
    generalize (stAt tab k).start = q1 at h1
    generalize (stAt tab k).mid = q2 at h2
    generalize (stAt tab k).arr = q3 at h3
    go_enter Tryd.func53, Tryd.ntmps53
    go_wp2_with (fail)
    refine HH.out.mono ?_
    rintro e w1 ⟨rfl, rfl⟩
    go_wp2_with (fail)
    go_ret
    refine ⟨rfl, ⟨?_, ?_, by rw [List.length_set]; exact H.out.len⟩, ?_⟩
    · rw [List.length_set]
      exact (((H.out.box.far (p := ⟨g, k * 4, none⟩) hne _).far (p := ⟨g, k * 4 + 1, none⟩) hne _).far (p := ⟨g, k * 4 + 2, none⟩) hne _).far (p := ⟨g, k * 4 + 3, none⟩) hne _
    · exact row_all H.out.row hk ⟨true, false, false, tick⟩
    · exact ((((Chg.refl (fun q => q = g) w).set (.inl rfl) _).set (.inl rfl) _).set (.inl rfl) _).set (.inl rfl) _
theorem infoSt : (Tryd.prog.info? 108).map (fun i => (i.zero, i.size, i.bytes)) = some (some (stV St.zero), 4, 16) := by kernel_rfl
theorem made_st0 : madeCells (stV St.zero).cells (0 * 4) = ((List.replicate 0 St.zero).flatMap encSt).toArray := by kernel_rfl
theorem made_st1 : madeCells (stV St.zero).cells (1 * 4) = ((List.replicate 1 St.zero).flatMap encSt).toArray := by kernel_rfl
theorem made_st2 : madeCells (stV St.zero).cells (2 * 4) = ((List.replicate 2 St.zero).flatMap encSt).toArray := by kernel_rfl
theorem made_st3 : madeCells (stV St.zero).cells (3 * 4) = ((List.replicate 3 St.zero).flatMap encSt).toArray := by kernel_rfl
theorem made_st4 : madeCells (stV St.zero).cells (4 * 4) = ((List.replicate 4 St.zero).flatMap encSt).toArray := by kernel_rfl
theorem made_st5 : madeCells (stV St.zero).cells (5 * 4) = ((List.replicate 5 St.zero).flatMap encSt).toArray := by kernel_rfl
theorem made_st6 : madeCells (stV St.zero).cells (6 * 4) = ((List.replicate 6 St.zero).flatMap encSt).toArray := by kernel_rfl
theorem made_st7 : madeCells (stV St.zero).cells (7 * 4) = ((List.replicate 7 St.zero).flatMap encSt).toArray := by kernel_rfl
theorem made_st8 : madeCells (stV St.zero).cells (8 * 4) = ((List.replicate 8 St.zero).flatMap encSt).toArray := by kernel_rfl
theorem made_st {n : Nat} (h : n ≤ 8) : madeCells (stV St.zero).cells (n * 4) = ((List.replicate n St.zero).flatMap encSt).toArray := by
  have h9 : n = 0 ∨ n = 1 ∨ n = 2 ∨ n = 3 ∨ n = 4 ∨ n = 5 ∨ n = 6 ∨ n = 7 ∨ n = 8 := by omega
  clear h
  rcases h9 with rfl | rfl | rfl | rfl | rfl | rfl | rfl | rfl | rfl
  · exact made_st0
  · exact made_st1
  · exact made_st2
  · exact made_st3
  · exact made_st4
  · exact made_st5
  · exact made_st6
  · exact made_st7
  · exact made_st8
theorem make_st {n : Nat} (h : n ≤ 8) (w : World) : (Instr.makeSlice 82 (.int .i64 n) (.int .i64 n)).run Tryd.prog w = .ok (.slice (some ⟨w.heap.size, 0, none⟩) n n) (w.alloc (.cells ((List.replicate n St.zero).flatMap encSt).toArray 108)) := by
  obtain ⟨i, hi, hz0, hz1, hz2⟩ := info_parts infoSt
  have := run_make w 82 108 i (stV St.zero) Tryd.underlying82 hi hz0 .i64 .i64 n n (by omega) (Int.le_refl _) (by rw [hz2]; omega) (by omega)
  rw [hz1, Int.toNat_natCast, made_st h] at this
  exact this
theorem new_tab (n : Nat) (w : World) (hn : 1 ≤ n ∧ n ≤ 8) :
    Calls Tryd.prog 34 #[.int .i64 n] w fun e w' => ∃ gt g, e = .returned (.pointer (some ⟨gt, 0, none⟩)) ∧ TabAt 100 w' gt g (List.replicate n St.zero) ∧ w.heap.size ≤ gt ∧ w.heap.size ≤ g ∧ Ext w w' := by
  have hmk := make_st hn.2 w
  have hd1 : decide ((n : Int) < 1) = false := decide_eq_false (by omega)
  have hd2 : decide ((8 : Int) < (n : Int)) = false := decide_eq_false (by omega)
  have HN := Lib.hid hn
  clear hn
  have hl : (List.replicate n St.zero).length = n := List.length_replicate
  have HL := Lib.hid hl
  clear hl
  generalize List.replicate n St.zero = zs at hmk HL ⊢
  generalize hcs : (zs.flatMap encSt).toArray = cs at hmk
  have HCS := Lib.hid hcs
  clear hcs
  go_enter Tryd.func34, Tryd.ntmps34
  go_wp2_with (fail)
  go_ret
  refine ⟨_, _, rfl, ⟨?_, ?_, by rw [HL.out]; exact HN.out.2⟩, ?_, Nat.le_refl _, ((Ext.refl w).alloc _).alloc _⟩
  · rw [HL.out]
    exact Blk.new_at _ _ _ _ (by simp)
  · show Blk _ _ (zs.flatMap encSt).toArray _
    rw [HCS.out]
    exact (Blk.new _ _ _).alloc _
  · simp
/-- a state's cells -/
def StR (w : World) (b o : Nat) (x : St) : Prop := w.cell? ⟨b, o, none⟩ = some (.bool x.pend) ∧ w.cell? ⟨b, o + 1, none⟩ = some (.bool x.start) ∧ w.cell? ⟨b, o + 2, none⟩ = some (.bool x.mid) ∧ w.cell? ⟨b, o + 3, none⟩ = some (.int .i64 x.arr)
theorem StR.ext {w w' : World} {b o : Nat} {x : St} (h : StR w b o x) (hx : Ext w w') : StR w' b o x := ⟨hx.cell h.1, hx.cell h.2.1, hx.cell h.2.2.1, hx.cell h.2.2.2⟩
theorem encSt_one (x : St) : ∀ u ∈ encSt x, u.oneCell' = true := by
  intro u hu
  simp only [encSt, List.mem_cons, List.not_mem_nil, or_false] at hu
  rcases hu with rfl | rfl | rfl | rfl <;> rfl
theorem StR.get {w : World} {b o j : Nat} {x : St} {u : Value} (h : StR w b o x) (hu : (encSt x)[j]? = some u) : w.cell? ⟨b, o + j, none⟩ = some u := by
  have hj := (List.getElem?_eq_some_iff.1 hu).1
  have hj : j < 4 := hj
  match j, hj with
  | 0, _ => cases hu; exact h.1
  | 1, _ => cases hu; exact h.2.1
  | 2, _ => cases hu; exact h.2.2.1
  | 3, _ => cases hu; exact h.2.2.2
theorem OwnL.sts {w : World} {base : Nat} {v : Value} {tab : List St} (h : OwnL encSt w base 108 4 v tab) : SlR StR 4 Any w v tab :=
  OwnL.read h encSt_len (fun _ _ _ => trivial) (fun _ _ _ _ hx => ⟨hx 0 _ rfl, hx 1 _ rfl, hx 2 _ rfl, hx 3 _ rfl⟩)
theorem TabAt.sts {ty : TypeId} {w : World} {gt g : Nat} {tab : List St} (h : TabAt ty w gt g tab) : SlR StR 4 Any w (.slice (some ⟨g, 0, none⟩) tab.length tab.length) tab := by
  refine ⟨_, _, rfl, Nat.le_refl _, by have := h.len; unfold maxLen; omega, fun _ => ⟨g, 0, rfl, trivial, fun i hi => ?_⟩⟩
  have := h.cells hi
  have e : stAt tab i = tab[i] := by unfold stAt; rw [getD_at hi]
  rw [e] at this
  rw [Nat.zero_add]
  exact this
theorem st_news {w : World} {g n c : Nat} {tab : List St} (h : SlR StR 4 Any w (.slice (some ⟨g, 0, none⟩) n c) tab) {j : Nat} {u : Value} (hu : (tab.flatMap encSt)[j]? = some u) : w.cell? ⟨g, 0 + j, none⟩ = some u := by
  have hj := (List.getElem?_eq_some_iff.1 hu).1
  have hlen : (tab.flatMap encSt).length = tab.length * 4 := by
    rw [List.length_flatMap]
    simp [encSt_len, List.map_const', Nat.mul_comm]
  have hi : j / 4 < tab.length := by omega
  obtain ⟨b, o, e, hx⟩ := h.at hi
  have e1 := Option.some.inj e
  injection e1 with e1 e2
  subst e1 e2
  have e3 : j = j / 4 * 4 + j % 4 := by omega
  rw [e3, flat_get encSt_len (by omega) tab _ hi] at hu
  have := hx.get hu
  rw [Nat.zero_add] at this ⊢
  rw [e3]
  exact this
theorem clone_st (g c : Nat) (tab : List St) (w : World) (h : SlR StR 4 Any w (.slice (some ⟨g, 0, none⟩) tab.length c) tab) (hl : 1 ≤ tab.length ∧ tab.length ≤ 8) :
    Calls Tryd.prog 59 #[.slice (some ⟨g, 0, none⟩) tab.length c] w fun e w' => ∃ v', e = .returned v' ∧ OwnL encSt w' w.heap.size 108 4 v' tab ∧ Ext w w' := by
  have H := Lib.hid h
  have HL := Lib.hid hl
  have hfl : (tab.flatMap encSt).length = tab.length * 4 := by
    rw [List.length_flatMap]
    simp [encSt_len, List.map_const', Nat.mul_comm]
  have HF := Lib.hid hfl
  have hnil := Go.Lib.run_eql_slice_some_nil (P := Tryd.prog) w (t := 82) ⟨g, 0, none⟩ tab.length c Tryd.underlying82
  clear h hl hfl
  go_enter Tryd.func59, Tryd.ntmps59
  go_wp2_with (at_builtin; (refine wpList_append_row rfl _ _ 82 rfl w.heap.size 108 Tryd.underlying82 infoSt rfl (by decide) _ 0 [] rfl ?_ (some ⟨g, 0, none⟩) tab.length c (tab.flatMap encSt) rfl HF.out ?_ ?_ ?_ ?_ ?_ ?_; (· exact own_empty_n (Nat.le_refl _)); (· exact fun _ => ⟨g, 0, rfl, fun j u hu => st_news (H.out.to fun _ _ _ h => h.ext ((Ext.refl w).alloc _)) hu⟩); (· exact fun u hu => by obtain ⟨x, _, hx⟩ := List.mem_flatMap.1 hu; exact encSt_one x u hx); (· have := HL.out; omega); (· have := HL.out; unfold maxLen; omega); (· rw [size_alloc]; omega); (intro v1 w1 hown1 hg1 hloc1 _; obtain ⟨A1, c1, rfl⟩ := own_slice hown1)))
  go_ret
  simp only [Nat.zero_add, List.nil_append] at hown1
  refine ⟨.slice A1 tab.length c1, rfl, hown1, ((Ext.refl w).alloc (.cells #[] 108)).grown hg1 (fun k e => by cases e; exact Nat.le_refl _)⟩
theorem all_tab (gt g : Nat) (tab : List St) (w : World) (h : TabAt 100 w gt g tab) (hl : 1 ≤ tab.length) :
    Calls Tryd.prog 39 #[.pointer (some ⟨gt, 0, none⟩)] w fun e w' => ∃ v', e = .returned v' ∧ OwnL encSt w' w.heap.size 108 4 v' tab ∧ Ext w w' := by
  have hC := clone_st g tab.length tab w h.sts ⟨hl, h.len⟩
  have HC := Lib.hid hC
  have hc := h.box.cell
  clear hC
  go_enter Tryd.func39, Tryd.ntmps39
  go_wp2_with (fail)
  refine HC.out.mono ?_
  rintro e w1 ⟨v1, rfl, hO, hX⟩
  obtain ⟨A1, c1, rfl⟩ := OwnL.slice2 hO
  go_wp2_with (fail)
  go_ret
  exact ⟨_, rfl, hO, hX⟩
end Go.Proofs.YtniejidekflmiaaDoor
