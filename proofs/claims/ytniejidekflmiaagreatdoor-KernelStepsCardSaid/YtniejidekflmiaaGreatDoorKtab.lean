/- Tables of jobs. -/
import Derived.Test.YtniejidekflmiaaGreatDoorProg
import Derived.Test.YtniejidekflmiaaGreatDoorBase
import Derived.Test.YtniejidekflmiaaGreatDoorHeldX
import Derived.Test.YtniejidekflmiaaGreatDoorApp
import Derived.Test.YtniejidekflmiaaGreatDoorExt0
import Derived.Test.YtniejidekflmiaaGreatDoorChg
import Derived.Test.YtniejidekflmiaaGreatDoorRowB
import Derived.Test.YtniejidekflmiaaGreatDoorKM
import Derived.Test.YtniejidekflmiaaGreatDoorKP1
import Derived.Test.YtniejidekflmiaaGreatDoorOpenI
import Derived.Test.YtniejidekflmiaaGreatDoorHeldN
import Derived.Test.YtniejidekflmiaaGreatDoorTskZ
import Derived.Lib.BufferMore
import Derived.Deep.Cut
import Derived.Lib.Hide
import Derived.OwnWalk
import Derived.Maps.AppendAt
import Derived.Deep.DeepMust
namespace Go.Proofs.YtniejidekflmiaaGreatDoor
open Go.RowKit
attribute [local go_sem] setCell_twice ByteArray.toList_eq str_list Ext.alloc Ext.drew
set_option linter.unusedSimpArgs false
set_option maxRecDepth 100000
set_option maxHeartbeats 400000
attribute [local irreducible] Calls

def encSt (x : St) : List Value := [.bool x.pend, .bool x.start, .bool x.mid, .int .i64 x.arr]
theorem encSt_len (x : St) : (encSt x).length = 4 := rfl
def stV (x : St) : Value := .agg #[.bool x.pend, .bool x.start, .bool x.mid, .int .i64 x.arr]
/-- a table at gt, its row at g; ty: the table's type -/
structure TabAt (ty : TypeId) (w : World) (gt g : Nat) (tab : List St) : Prop where
  box : Blk w gt #[.slice (some ⟨g, 0, none⟩) tab.length tab.length] ty
  row : RowBk encSt w g 105 tab
  len : tab.length ≤ 8
theorem TabAt.ext {ty : TypeId} {w w' : World} {gt g : Nat} {tab : List St} (h : TabAt ty w gt g tab) (hx : Ext w w') : TabAt ty w' gt g tab := ⟨h.box.ext hx, h.row.ext hx, h.len⟩
theorem TabAt.chg {ty : TypeId} {F : Nat → Prop} {w w' : World} {gt g : Nat} {tab : List St} (h : TabAt ty w gt g tab) (hx : Chg F w w') (h1 : ¬ F gt) (h2 : ¬ F g) : TabAt ty w' gt g tab := ⟨h.box.chg hx h1, h.row.chg hx h2, h.len⟩
theorem TabAt.cells {ty : TypeId} {w : World} {gt g : Nat} {tab : List St} (h : TabAt ty w gt g tab) {i : Nat} (hi : i < tab.length) :
    w.cell? ⟨g, i * 4, none⟩ = some (.bool (stAt tab i).pend) ∧ w.cell? ⟨g, i * 4 + 1, none⟩ = some (.bool (stAt tab i).start) ∧ w.cell? ⟨g, i * 4 + 2, none⟩ = some (.bool (stAt tab i).mid) ∧ w.cell? ⟨g, i * 4 + 3, none⟩ = some (.int .i64 (stAt tab i).arr) := by
  have e : stAt tab i = tab[i] := by unfold stAt; rw [getD_at hi]
  rw [e]
  have h0 := h.row.at encSt_len (i := i) (j := 0) hi (by decide)
  have h1 := h.row.at encSt_len (i := i) (j := 1) hi (by decide)
  have h2 := h.row.at encSt_len (i := i) (j := 2) hi (by decide)
  have h3 := h.row.at encSt_len (i := i) (j := 3) hi (by decide)
  exact ⟨h0, h1, h2, h3⟩
/-- has a task a job? -/
def hasB (tab : List St) (i : Int) : Bool := decide (0 ≤ i) && (stAt tab i.toNat).pend
theorem hasB_nat (tab : List St) (i : Nat) : hasB tab i = (stAt tab i).pend := by
  unfold hasB
  rw [decide_eq_true (by omega), Int.toNat_natCast, Bool.true_and]
theorem hasB_neg (tab : List St) {i : Int} (h : i < 0) : hasB tab i = false := by
  unfold hasB
  rw [decide_eq_false (by omega)]
  rfl
theorem int_cases (i : Int) (n : Nat) : i < 0 ∨ (∃ k : Nat, i = k ∧ k < n) ∨ ∃ k : Nat, i = k ∧ n ≤ k := by
  rcases Int.lt_or_le i 0 with h | h
  · exact .inl h
  · obtain ⟨k, rfl⟩ := Int.eq_ofNat_of_zero_le h
    rcases Nat.lt_or_ge k n with h2 | h2
    · exact .inr (.inl ⟨k, rfl, h2⟩)
    · exact .inr (.inr ⟨k, rfl, h2⟩)
theorem has_tab (gt g : Nat) (tab : List St) (i : Int) (w : World) (h : TabAt 117 w gt g tab) :
    Calls Tryz.prog 107 #[.pointer (some ⟨gt, 0, none⟩), .int .i64 i] w fun e w' => e = .returned (.bool (hasB tab i)) ∧ w = w' := by
  have hc := h.box.cell
  have hl := h.len
  rcases int_cases i tab.length with hi | ⟨k, rfl, hk⟩ | ⟨k, rfl, hk⟩
  · have HE := Lib.hid (hasB_neg tab hi)
    have hd : decide (0 ≤ i) = false := decide_eq_false (by omega)
    go_enter Tryz.func107, Tryz.ntmps107
    go_wp2_with (fail)
    go_ret
    exact ⟨by rw [HE.out]; rfl, by first | trivial | rfl⟩
  · have HE := Lib.hid (hasB_nat tab k)
    obtain ⟨h0, h1, h2, h3⟩ := h.cells hk
    clear h1 h2 h3
    generalize (stAt tab k).pend = p at h0 HE
    go_enter Tryz.func107, Tryz.ntmps107
    go_wp2_with (fail)
    go_ret
    exact ⟨by rw [HE.out]; rfl, by first | trivial | rfl⟩
  · have HE := Lib.hid (show hasB tab k = false by rw [hasB_nat, stAt_out hk]; rfl)
    go_enter Tryz.func107, Tryz.ntmps107
    go_wp2_with (fail)
    go_ret
    exact ⟨by rw [HE.out]; rfl, by first | trivial | rfl⟩
theorem state_tab (gt g : Nat) (tab : List St) (i : Int) (w : World) (h : TabAt 117 w gt g tab) :
    Calls Tryz.prog 60 #[.pointer (some ⟨gt, 0, none⟩), .int .i64 i] w fun e w' => e = .returned (stV (bif hasB tab i then stAt tab i.toNat else St.zero)) ∧ Below w.heap.size w w' := by
  have hA := (Ext.refl w).alloc (.cells #[.bool false, .bool false, .bool false, .int .i64 0] 105)
  have hH := has_tab gt g tab i _ (h.ext hA)
  have hc := h.box.cell
  have hl := h.len
  cases hb : hasB tab i with
  | false =>
    rw [hb] at hH
    have HH := Lib.hid hH
    clear hH hb
    go_enter Tryz.func60, Tryz.ntmps60
    go_wp2_with (fail)
    refine HH.out.mono ?_
    rintro e w1 ⟨rfl, rfl⟩
    go_wp2_with (fail)
    refine bodyPost_ret (v := stV St.zero) (by simp [stV, St.zero, results, Tryz.results60, go_sem, *]) rfl ⟨rfl, ?_⟩
    exact (by repeat (first | exact Below.refl _ _ | assumption | refine Below.drew ?_ | refine Below.alloc ?_ (by first | (simp; done) | (simp; omega) | omega) _ | refine Below.setCell ?_ (by first | (simp; done) | (simp; omega) | omega) _))
  | true =>
    obtain ⟨k, rfl, hk⟩ : ∃ k : Nat, i = k ∧ k < tab.length := by
      rcases int_cases i tab.length with hi | h | ⟨k, rfl, hk⟩
      · rw [hasB_neg tab hi] at hb; cases hb
      · exact h
      · rw [hasB_nat, stAt_out hk] at hb; cases hb
    rw [hb] at hH
    have HH := Lib.hid hH
    obtain ⟨h0, h1, h2, h3⟩ := (h.ext hA).cells hk
    have hc2 := (h.ext hA).box.cell
    rw [Int.toNat_natCast]
    clear hH hb hc
    obtain ⟨x, hx⟩ : ∃ x, x = stAt tab k := ⟨_, rfl⟩
    rw [← hx] at h0 h1 h2 h3 ⊢
    have HX := Lib.hid hx
    clear hx
    go_enter Tryz.func60, Tryz.ntmps60
    go_wp2_with (fail)
    refine HH.out.mono ?_
    rintro e w1 ⟨rfl, rfl⟩
    go_wp2_with (fail)
    refine bodyPost_ret (v := stV x) (by simp [stV, results, Tryz.results60, go_sem, *]) rfl ⟨rfl, ?_⟩
    exact (by repeat (first | exact Below.refl _ _ | assumption | refine Below.drew ?_ | refine Below.alloc ?_ (by first | (simp; done) | (simp; omega) | omega) _ | refine Below.setCell ?_ (by first | (simp; done) | (simp; omega) | omega) _))
/-- task k's state turned, if it has a job -/
def modT (tab : List St) (k : Nat) (f : St → St) : List St := if (stAt tab k).pend = true then tab.set k (f (stAt tab k)) else tab
theorem modT_on {tab : List St} {k : Nat} (f : St → St) (h : (stAt tab k).pend = true) : modT tab k f = tab.set k (f (stAt tab k)) := if_pos h
theorem modT_off {tab : List St} {k : Nat} (f : St → St) (h : (stAt tab k).pend = false) : modT tab k f = tab := if_neg (by rw [h]; simp)
theorem row_all {w : World} {g : Nat} {tab : List St} (h : RowBk encSt w g 105 tab) {k : Nat} (hk : k < tab.length) (x : St) :
    RowBk encSt ((((w.setCell ⟨g, k * 4, none⟩ (.bool x.pend)).setCell ⟨g, k * 4 + 1, none⟩ (.bool x.start)).setCell ⟨g, k * 4 + 2, none⟩ (.bool x.mid)).setCell ⟨g, k * 4 + 3, none⟩ (.int .i64 x.arr)) g 105 (tab.set k x) := by
  have a0 := h.set encSt_len (i := k) (j := 0) (u := .bool x.pend) (x' := { tab[k] with pend := x.pend }) (by decide) (fun _ => rfl)
  have a1 := a0.set encSt_len (i := k) (j := 1) (u := .bool x.start) (x' := { tab[k] with pend := x.pend, start := x.start }) (by decide) (fun _ => by rw [List.getElem_set_self]; rfl)
  have a2 := a1.set encSt_len (i := k) (j := 2) (u := .bool x.mid) (x' := { tab[k] with pend := x.pend, start := x.start, mid := x.mid }) (by decide) (fun _ => by rw [List.getElem_set_self]; rfl)
  have a3 := a2.set encSt_len (i := k) (j := 3) (u := .int .i64 x.arr) (x' := x) (by decide) (fun _ => by rw [List.getElem_set_self]; rfl)
  simp only [List.set_set] at a3
  exact a3
theorem begin_tab (gt g : Nat) (tab : List St) (k : Nat) (w : World) (h : TabAt 117 w gt g tab) (hk : k < tab.length) :
    Calls Tryz.prog 71 #[.pointer (some ⟨gt, 0, none⟩), .int .i64 k] w fun e w' => e = .returned (.bool (stAt tab k).pend) ∧ TabAt 117 w' gt g (modT tab k (fun x => { x with start := true })) ∧ Chg (fun q => q = g) w w' := by
  have hH := has_tab gt g tab k w h
  rw [hasB_nat] at hH
  have hc := h.box.cell
  have hf := h.row.free
  have hl := h.len
  have he : stAt tab k = tab[k] := by unfold stAt; rw [getD_at hk]
  have hne : gt ≠ g := h.box.apart (show Blk w g _ _ from h.row) (by decide)
  cases hb : (stAt tab k).pend with
  | false =>
    rw [hb] at hH
    have HH := Lib.hid hH
    have HM := Lib.hid (modT_off (fun x => { x with start := true }) hb)
    clear hH hb he
    go_enter Tryz.func71, Tryz.ntmps71
    go_wp2_with (fail)
    refine HH.out.mono ?_
    rintro e w1 ⟨rfl, rfl⟩
    go_wp2_with (fail)
    go_ret
    exact ⟨rfl, by rw [HM.out]; exact h, Chg.refl _ _⟩
  | true =>
    rw [hb] at hH
    have HH := Lib.hid hH
    have HM := Lib.hid (modT_on (fun x => { x with start := true }) hb)
    have HE := Lib.hid he
    obtain ⟨h0, h1, h2, h3⟩ := h.cells hk
    have H := Lib.hid h
    clear hH hb he h
    generalize (stAt tab k).pend = q0 at h0
    generalize (stAt tab k).start = q1 at h1
    generalize (stAt tab k).mid = q2 at h2
    generalize (stAt tab k).arr = q3 at h3
    go_enter Tryz.func71, Tryz.ntmps71
    go_wp2_with (fail)
    refine HH.out.mono ?_
    rintro e w1 ⟨rfl, rfl⟩
    go_wp2_with (fail)
    go_ret
    refine ⟨rfl, ?_, ?_⟩
    · rw [HM.out]
      refine ⟨?_, ?_, by rw [List.length_set]; exact H.out.len⟩
      · rw [List.length_set]
        exact H.out.box.far (p := ⟨g, k * 4 + 1, none⟩) hne _
      · exact H.out.row.set encSt_len (j := 1) (by decide) (fun _ => by rw [HE.out]; rfl)
    · exact (Chg.refl (fun q => q = g) w).set (.inl rfl) _
theorem mid_tab (gt g : Nat) (tab : List St) (k : Nat) (b : Bool) (w : World) (h : TabAt 117 w gt g tab) (hk : k < tab.length) :
    Calls Tryz.prog 75 #[.pointer (some ⟨gt, 0, none⟩), .int .i64 k, .bool b] w fun e w' => e = .returned (.bool (stAt tab k).pend) ∧ TabAt 117 w' gt g (modT tab k (fun x => { x with mid := b })) ∧ Chg (fun q => q = g) w w' := by
  have hH := has_tab gt g tab k w h
  rw [hasB_nat] at hH
  have hc := h.box.cell
  have hf := h.row.free
  have hl := h.len
  have he : stAt tab k = tab[k] := by unfold stAt; rw [getD_at hk]
  have hne : gt ≠ g := h.box.apart (show Blk w g _ _ from h.row) (by decide)
  cases hb : (stAt tab k).pend with
  | false =>
    rw [hb] at hH
    have HH := Lib.hid hH
    have HM := Lib.hid (modT_off (fun x => { x with mid := b }) hb)
    clear hH hb he
    go_enter Tryz.func75, Tryz.ntmps75
    go_wp2_with (fail)
    refine HH.out.mono ?_
    rintro e w1 ⟨rfl, rfl⟩
    go_wp2_with (fail)
    go_ret
    exact ⟨rfl, by rw [HM.out]; exact h, Chg.refl _ _⟩
  | true =>
    rw [hb] at hH
    have HH := Lib.hid hH
    have HM := Lib.hid (modT_on (fun x => { x with mid := b }) hb)
    have HE := Lib.hid he
    obtain ⟨h0, h1, h2, h3⟩ := h.cells hk
    have H := Lib.hid h
    clear hH hb he h
    generalize (stAt tab k).pend = q0 at h0
    generalize (stAt tab k).start = q1 at h1
    generalize (stAt tab k).mid = q2 at h2
    generalize (stAt tab k).arr = q3 at h3
    go_enter Tryz.func75, Tryz.ntmps75
    go_wp2_with (fail)
    refine HH.out.mono ?_
    rintro e w1 ⟨rfl, rfl⟩
    go_wp2_with (fail)
    go_ret
    refine ⟨rfl, ?_, ?_⟩
    · rw [HM.out]
      refine ⟨?_, ?_, by rw [List.length_set]; exact H.out.len⟩
      · rw [List.length_set]
        exact H.out.box.far (p := ⟨g, k * 4 + 2, none⟩) hne _
      · exact H.out.row.set encSt_len (j := 2) (by decide) (fun _ => by rw [HE.out]; rfl)
    · exact (Chg.refl (fun q => q = g) w).set (.inl rfl) _
theorem drop_tab (gt g : Nat) (tab : List St) (k : Nat) (w : World) (h : TabAt 117 w gt g tab) (hk : k < tab.length) :
    Calls Tryz.prog 78 #[.pointer (some ⟨gt, 0, none⟩), .int .i64 k] w fun e w' => e = .returned (.bool (stAt tab k).pend) ∧ TabAt 117 w' gt g (modT tab k (fun _ => St.zero)) ∧ Chg (fun q => q = g) w w' := by
  have hH := has_tab gt g tab k w h
  rw [hasB_nat] at hH
  have hc := h.box.cell
  have hf := h.row.free
  have hl := h.len
  have he : stAt tab k = tab[k] := by unfold stAt; rw [getD_at hk]
  have hne : gt ≠ g := h.box.apart (show Blk w g _ _ from h.row) (by decide)
  cases hb : (stAt tab k).pend with
  | false =>
    rw [hb] at hH
    have HH := Lib.hid hH
    have HM := Lib.hid (modT_off (fun _ => St.zero) hb)
    clear hH hb he
    go_enter Tryz.func78, Tryz.ntmps78
    go_wp2_with (fail)
    refine HH.out.mono ?_
    rintro e w1 ⟨rfl, rfl⟩
    go_wp2_with (fail)
    go_ret
    exact ⟨rfl, by rw [HM.out]; exact h, Chg.refl _ _⟩
  | true =>
    rw [hb] at hH
    have HH := Lib.hid hH
    have HM := Lib.hid (modT_on (fun _ => St.zero) hb)
    have HE := Lib.hid he
    obtain ⟨h0, h1, h2, h3⟩ := h.cells hk
    have H := Lib.hid h
    clear hH hb he h
    generalize (stAt tab k).pend = q0 at h0
    generalize (stAt tab k).start = q1 at h1
    generalize (stAt tab k).mid = q2 at h2
    generalize (stAt tab k).arr = q3 at h3
    go_enter Tryz.func78, Tryz.ntmps78
    go_wp2_with (fail)
    refine HH.out.mono ?_
    rintro e w1 ⟨rfl, rfl⟩
    go_wp2_with (fail)
    go_ret
    refine ⟨rfl, ?_, ?_⟩
    · rw [HM.out]
      refine ⟨?_, ?_, by rw [List.length_set]; exact H.out.len⟩
      · rw [List.length_set]
        exact (((H.out.box.far (p := ⟨g, k * 4, none⟩) hne _).far (p := ⟨g, k * 4 + 1, none⟩) hne _).far (p := ⟨g, k * 4 + 2, none⟩) hne _).far (p := ⟨g, k * 4 + 3, none⟩) hne _
      · exact row_all H.out.row hk St.zero
    · exact ((((Chg.refl (fun q => q = g) w).set (.inl rfl) _).set (.inl rfl) _).set (.inl rfl) _).set (.inl rfl) _
theorem put_tab (gt g : Nat) (tab : List St) (k : Nat) (tick : Int) (w : World) (h : TabAt 117 w gt g tab) (hk : k < tab.length) :
    Calls Tryz.prog 63 #[.pointer (some ⟨gt, 0, none⟩), .int .i64 k, .int .i64 tick] w fun e w' => e = .returned (.bool (!(stAt tab k).pend)) ∧ TabAt 117 w' gt g (if (stAt tab k).pend = true then tab else tab.set k ⟨true, false, false, tick⟩) ∧ Chg (fun q => q = g) w w' := by
  have hH := has_tab gt g tab k w h
  rw [hasB_nat] at hH
  have hc := h.box.cell
  have hf := h.row.free
  have hl := h.len
  have hne : gt ≠ g := h.box.apart (show Blk w g _ _ from h.row) (by decide)
  have hd : decide ((tab.length : Int) ≤ (k : Int)) = false := decide_eq_false (by omega)
  cases hb : (stAt tab k).pend with
  | true =>
    rw [hb] at hH
    have HH := Lib.hid hH
    have H := Lib.hid h
    rw [if_pos rfl]
    clear hH hb h
    go_enter Tryz.func63, Tryz.ntmps63
    go_wp2_with (fail)
    refine HH.out.mono ?_
    rintro e w1 ⟨rfl, rfl⟩
    go_wp2_with (fail)
    go_ret
    exact ⟨rfl, H.out, Chg.refl _ _⟩
  | false =>
    rw [hb] at hH
    have HH := Lib.hid hH
    obtain ⟨h0, h1, h2, h3⟩ := h.cells hk
    have H := Lib.hid h
    rw [if_neg (by decide)]
    clear hH hb h
    generalize (stAt tab k).pend = q0 at h0
    generalize (stAt tab k).start = q1 at h1
    generalize (stAt tab k).mid = q2 at h2
    generalize (stAt tab k).arr = q3 at h3
    go_enter Tryz.func63, Tryz.ntmps63
    go_wp2_with (fail)
    refine HH.out.mono ?_
    rintro e w1 ⟨rfl, rfl⟩
    go_wp2_with (fail)
    go_ret
    refine ⟨rfl, ⟨?_, ?_, by rw [List.length_set]; exact H.out.len⟩, ?_⟩
    · rw [List.length_set]
      exact (((H.out.box.far (p := ⟨g, k * 4, none⟩) hne _).far (p := ⟨g, k * 4 + 1, none⟩) hne _).far (p := ⟨g, k * 4 + 2, none⟩) hne _).far (p := ⟨g, k * 4 + 3, none⟩) hne _
    · exact row_all H.out.row hk ⟨true, false, false, tick⟩
    · exact ((((Chg.refl (fun q => q = g) w).set (.inl rfl) _).set (.inl rfl) _).set (.inl rfl) _).set (.inl rfl) _
theorem infoSt : (Tryz.prog.info? 105).map (fun i => (i.zero, i.size, i.bytes)) = some (some (stV St.zero), 4, 16) := by kernel_rfl
theorem made_st0 : madeCells (stV St.zero).cells (0 * 4) = ((List.replicate 0 St.zero).flatMap encSt).toArray := by kernel_rfl
theorem made_st1 : madeCells (stV St.zero).cells (1 * 4) = ((List.replicate 1 St.zero).flatMap encSt).toArray := by kernel_rfl
theorem made_st2 : madeCells (stV St.zero).cells (2 * 4) = ((List.replicate 2 St.zero).flatMap encSt).toArray := by kernel_rfl
theorem made_st3 : madeCells (stV St.zero).cells (3 * 4) = ((List.replicate 3 St.zero).flatMap encSt).toArray := by kernel_rfl
theorem made_st4 : madeCells (stV St.zero).cells (4 * 4) = ((List.replicate 4 St.zero).flatMap encSt).toArray := by kernel_rfl
theorem made_st5 : madeCells (stV St.zero).cells (5 * 4) = ((List.replicate 5 St.zero).flatMap encSt).toArray := by kernel_rfl
theorem made_st6 : madeCells (stV St.zero).cells (6 * 4) = ((List.replicate 6 St.zero).flatMap encSt).toArray := by kernel_rfl
theorem made_st7 : madeCells (stV St.zero).cells (7 * 4) = ((List.replicate 7 St.zero).flatMap encSt).toArray := by kernel_rfl
theorem made_st8 : madeCells (stV St.zero).cells (8 * 4) = ((List.replicate 8 St.zero).flatMap encSt).toArray := by kernel_rfl
theorem made_st {n : Nat} (h : n ≤ 8) : madeCells (stV St.zero).cells (n * 4) = ((List.replicate n St.zero).flatMap encSt).toArray := by
  have h9 : n = 0 ∨ n = 1 ∨ n = 2 ∨ n = 3 ∨ n = 4 ∨ n = 5 ∨ n = 6 ∨ n = 7 ∨ n = 8 := by omega
  clear h
  rcases h9 with rfl | rfl | rfl | rfl | rfl | rfl | rfl | rfl | rfl
  · exact made_st0
  · exact made_st1
  · exact made_st2
  · exact made_st3
  · exact made_st4
  · exact made_st5
  · exact made_st6
  · exact made_st7
  · exact made_st8
theorem make_st {n : Nat} (h : n ≤ 8) (w : World) : (Instr.makeSlice 68 (.int .i64 n) (.int .i64 n)).run Tryz.prog w = .ok (.slice (some ⟨w.heap.size, 0, none⟩) n n) (w.alloc (.cells ((List.replicate n St.zero).flatMap encSt).toArray 105)) := by
  obtain ⟨i, hi, hz0, hz1, hz2⟩ := info_parts infoSt
  have := run_make w 68 105 i (stV St.zero) Tryz.underlying68 hi hz0 .i64 .i64 n n (by omega) (Int.le_refl _) (by rw [hz2]; omega) (by omega)
  rw [hz1, Int.toNat_natCast, made_st h] at this
  exact this
theorem new_tab (n : Nat) (w : World) (hn : 1 ≤ n ∧ n ≤ 8) :
    Calls Tryz.prog 31 #[.int .i64 n] w fun e w' => ∃ gt g, e = .returned (.pointer (some ⟨gt, 0, none⟩)) ∧ TabAt 117 w' gt g (List.replicate n St.zero) ∧ w.heap.size ≤ gt ∧ w.heap.size ≤ g ∧ Ext w w' := by
  have hmk := make_st hn.2 w
  have hd1 : decide ((n : Int) < 1) = false := decide_eq_false (by omega)
  have hd2 : decide ((8 : Int) < (n : Int)) = false := decide_eq_false (by omega)
  have HN := Lib.hid hn
  clear hn
  have hl : (List.replicate n St.zero).length = n := List.length_replicate
  have HL := Lib.hid hl
  clear hl
  generalize List.replicate n St.zero = zs at hmk HL ⊢
  generalize hcs : (zs.flatMap encSt).toArray = cs at hmk
  have HCS := Lib.hid hcs
  clear hcs
  go_enter Tryz.func31, Tryz.ntmps31
  go_wp2_with (fail)
  go_ret
  refine ⟨_, _, rfl, ⟨?_, ?_, by rw [HL.out]; exact HN.out.2⟩, ?_, Nat.le_refl _, ((Ext.refl w).alloc _).alloc _⟩
  · rw [HL.out]
    exact Blk.new_at _ _ _ _ (by simp)
  · show Blk _ _ (zs.flatMap encSt).toArray _
    rw [HCS.out]
    exact (Blk.new _ _ _).alloc _
  · simp
/-- a state's cells -/
def StR (w : World) (b o : Nat) (x : St) : Prop := w.cell? ⟨b, o, none⟩ = some (.bool x.pend) ∧ w.cell? ⟨b, o + 1, none⟩ = some (.bool x.start) ∧ w.cell? ⟨b, o + 2, none⟩ = some (.bool x.mid) ∧ w.cell? ⟨b, o + 3, none⟩ = some (.int .i64 x.arr)
theorem StR.ext {w w' : World} {b o : Nat} {x : St} (h : StR w b o x) (hx : Ext w w') : StR w' b o x := ⟨hx.cell h.1, hx.cell h.2.1, hx.cell h.2.2.1, hx.cell h.2.2.2⟩
theorem encSt_one (x : St) : ∀ u ∈ encSt x, u.oneCell' = true := by
  intro u hu
  simp only [encSt, List.mem_cons, List.not_mem_nil, or_false] at hu
  rcases hu with rfl | rfl | rfl | rfl <;> rfl
theorem StR.get {w : World} {b o j : Nat} {x : St} {u : Value} (h : StR w b o x) (hu : (encSt x)[j]? = some u) : w.cell? ⟨b, o + j, none⟩ = some u := by
  have hj := (List.getElem?_eq_some_iff.1 hu).1
  have hj : j < 4 := hj
  match j, hj with
  | 0, _ => cases hu; exact h.1
  | 1, _ => cases hu; exact h.2.1
  | 2, _ => cases hu; exact h.2.2.1
  | 3, _ => cases hu; exact h.2.2.2
theorem OwnL.sts {w : World} {base : Nat} {v : Value} {tab : List St} (h : OwnL encSt w base 105 4 v tab) : SlR StR 4 Any w v tab :=
  OwnL.read h encSt_len (fun _ _ _ => trivial) (fun _ _ _ _ hx => ⟨hx 0 _ rfl, hx 1 _ rfl, hx 2 _ rfl, hx 3 _ rfl⟩)
theorem TabAt.sts {ty : TypeId} {w : World} {gt g : Nat} {tab : List St} (h : TabAt ty w gt g tab) : SlR StR 4 Any w (.slice (some ⟨g, 0, none⟩) tab.length tab.length) tab := by
  refine ⟨_, _, rfl, Nat.le_refl _, by have := h.len; unfold maxLen; omega, fun _ => ⟨g, 0, rfl, trivial, fun i hi => ?_⟩⟩
  have := h.cells hi
  have e : stAt tab i = tab[i] := by unfold stAt; rw [getD_at hi]
  rw [e] at this
  rw [Nat.zero_add]
  exact this
theorem st_news {w : World} {g n c : Nat} {tab : List St} (h : SlR StR 4 Any w (.slice (some ⟨g, 0, none⟩) n c) tab) {j : Nat} {u : Value} (hu : (tab.flatMap encSt)[j]? = some u) : w.cell? ⟨g, 0 + j, none⟩ = some u := by
  have hj := (List.getElem?_eq_some_iff.1 hu).1
  have hlen : (tab.flatMap encSt).length = tab.length * 4 := by
    rw [List.length_flatMap]
    simp [encSt_len, List.map_const', Nat.mul_comm]
  have hi : j / 4 < tab.length := by omega
  obtain ⟨b, o, e, hx⟩ := h.at hi
  have e1 := Option.some.inj e
  injection e1 with e1 e2
  subst e1 e2
  have e3 : j = j / 4 * 4 + j % 4 := by omega
  rw [e3, flat_get encSt_len (by omega) tab _ hi] at hu
  have := hx.get hu
  rw [Nat.zero_add] at this ⊢
  rw [e3]
  exact this
theorem clone_st (g c : Nat) (tab : List St) (w : World) (h : SlR StR 4 Any w (.slice (some ⟨g, 0, none⟩) tab.length c) tab) (hl : 1 ≤ tab.length ∧ tab.length ≤ 8) :
    Calls Tryz.prog 69 #[.slice (some ⟨g, 0, none⟩) tab.length c] w fun e w' => ∃ v', e = .returned v' ∧ OwnL encSt w' w.heap.size 105 4 v' tab ∧ Ext w w' := by
  have H := Lib.hid h
  have HL := Lib.hid hl
  have hfl : (tab.flatMap encSt).length = tab.length * 4 := by
    rw [List.length_flatMap]
    simp [encSt_len, List.map_const', Nat.mul_comm]
  have HF := Lib.hid hfl
  have hnil := Go.Lib.run_eql_slice_some_nil (P := Tryz.prog) w (t := 68) ⟨g, 0, none⟩ tab.length c Tryz.underlying68
  clear h hl hfl
  go_enter Tryz.func69, Tryz.ntmps69
  go_wp2_with (at_builtin; (refine wpList_append_row rfl _ _ 68 rfl w.heap.size 105 Tryz.underlying68 infoSt rfl (by decide) _ 0 [] rfl ?_ (some ⟨g, 0, none⟩) tab.length c (tab.flatMap encSt) rfl HF.out ?_ ?_ ?_ ?_ ?_ ?_; (· exact own_empty_n (Nat.le_refl _)); (· exact fun _ => ⟨g, 0, rfl, fun j u hu => st_news (H.out.to fun _ _ _ h => h.ext ((Ext.refl w).alloc _)) hu⟩); (· exact fun u hu => by obtain ⟨x, _, hx⟩ := List.mem_flatMap.1 hu; exact encSt_one x u hx); (· have := HL.out; omega); (· have := HL.out; unfold maxLen; omega); (· rw [size_alloc]; omega); (intro v1 w1 hown1 hg1 hloc1 _; obtain ⟨A1, c1, rfl⟩ := own_slice hown1)))
  go_ret
  simp only [Nat.zero_add, List.nil_append] at hown1
  refine ⟨.slice A1 tab.length c1, rfl, hown1, ((Ext.refl w).alloc (.cells #[] 105)).grown hg1 (fun k e => by cases e; exact Nat.le_refl _)⟩
theorem all_tab (gt g : Nat) (tab : List St) (w : World) (h : TabAt 117 w gt g tab) (hl : 1 ≤ tab.length) :
    Calls Tryz.prog 39 #[.pointer (some ⟨gt, 0, none⟩)] w fun e w' => ∃ v', e = .returned v' ∧ OwnL encSt w' w.heap.size 105 4 v' tab ∧ Ext w w' := by
  have hC := clone_st g tab.length tab w h.sts ⟨hl, h.len⟩
  have HC := Lib.hid hC
  have hc := h.box.cell
  clear hC
  go_enter Tryz.func39, Tryz.ntmps39
  go_wp2_with (fail)
  refine HC.out.mono ?_
  rintro e w1 ⟨v1, rfl, hO, hX⟩
  obtain ⟨A1, c1, rfl⟩ := OwnL.slice2 hO
  go_wp2_with (fail)
  go_ret
  exact ⟨_, rfl, hO, hX⟩
end Go.Proofs.YtniejidekflmiaaGreatDoor
/- Who runs. -/
namespace Go.Proofs.YtniejidekflmiaaGreatDoor
open Go.RowKit
attribute [local go_sem] setCell_twice ByteArray.toList_eq str_list Ext.alloc Ext.drew
set_option linter.unusedSimpArgs false
set_option maxRecDepth 100000
set_option maxHeartbeats 1600000
attribute [local irreducible] Calls

theorem SlR.extT {w w' : World} {v : Value} {tab : List St} (h : SlR StR 4 Any w v tab) (hx : Ext w w') : SlR StR 4 Any w' v tab := h.to fun _ _ _ h => h.ext hx
theorem sts_at {w : World} {A : Option Addr} {n c : Nat} {tab : List St} (h : SlR StR 4 Any w (.slice A n c) tab) {k : Nat} (hk : k < tab.length) : ∃ b o, A = some ⟨b, o, none⟩ ∧ ∀ w', Ext w w' →
    w'.cell? ⟨b, o + k * 4, none⟩ = some (.bool (stAt tab k).pend) ∧ w'.cell? ⟨b, o + k * 4 + 1, none⟩ = some (.bool (stAt tab k).start) ∧ w'.cell? ⟨b, o + k * 4 + 2, none⟩ = some (.bool (stAt tab k).mid) ∧ w'.cell? ⟨b, o + k * 4 + 3, none⟩ = some (.int .i64 (stAt tab k).arr) := by
  obtain ⟨b, o, e, hx⟩ := h.at hk
  have e2 : stAt tab k = tab[k] := by unfold stAt; rw [getD_at hk]
  rw [e2]
  exact ⟨b, o, e, fun w' hw => hx.ext hw⟩
theorem ruleIs_any (s : TSet) (vt vl : Value) (tab : List St) (i : Int) (w : World) (hv : Tasks w vt s.tasks) (hl : SlR StR 4 Any w vl tab) (hn : tab.length = s.tasks.length) :
    Calls Tryz.prog 67 #[setV s vt, vl, .int .i64 i] w fun e w' => e = .returned (.bool (hasB tab i)) ∧ Below w.heap.size w w' := by
  obtain ⟨A, c, rfl, _, _⟩ := id hv
  obtain ⟨Al, cl, rfl, _, _⟩ := hl.form
  have HN := Lib.hid hn
  have hln : (s.tasks.length : Int) = (tab.length : Int) := by omega
  rcases int_cases i tab.length with hi | ⟨k, rfl, hk⟩ | ⟨k, rfl, hk⟩
  · have HE := Lib.hid (hasB_neg tab hi)
    have hd : decide (0 ≤ i) = false := decide_eq_false (by omega)
    clear hv hl hn
    go_enter Tryz.func67, Tryz.ntmps67
    unfold setV
    go_wp2_with (fail)
    go_ret
    exact ⟨by rw [HE.out]; rfl, (by repeat (first | exact Below.refl _ _ | assumption | refine Below.drew ?_ | refine Below.alloc ?_ (by first | (simp; done) | (simp; omega) | omega) _ | refine Below.setCell ?_ (by first | (simp; done) | (simp; omega) | omega) _))⟩
  · have HE := Lib.hid (hasB_nat tab k)
    obtain ⟨b, o, rfl, hx⟩ := sts_at hl hk
    have hx0 := (hx _ ((Ext.refl w).alloc (.cells #[.int .i64 s.reload, .slice A s.tasks.length c] 24))).1
    clear hx hv hl hn
    generalize (stAt tab k).pend = p at hx0 HE
    go_enter Tryz.func67, Tryz.ntmps67
    unfold setV
    go_wp2_with (fail)
    go_ret
    exact ⟨by rw [HE.out]; rfl, (by repeat (first | exact Below.refl _ _ | assumption | refine Below.drew ?_ | refine Below.alloc ?_ (by first | (simp; done) | (simp; omega) | omega) _ | refine Below.setCell ?_ (by first | (simp; done) | (simp; omega) | omega) _))⟩
  · have HE := Lib.hid (show hasB tab k = false by rw [hasB_nat, stAt_out hk]; rfl)
    have hd : decide ((k : Int) < (tab.length : Int)) = false := decide_eq_false (by omega)
    clear hv hl hn
    go_enter Tryz.func67, Tryz.ntmps67
    unfold setV
    go_wp2_with (fail)
    go_ret
    exact ⟨by rw [HE.out]; rfl, (by repeat (first | exact Below.refl _ _ | assumption | refine Below.drew ?_ | refine Below.alloc ?_ (by first | (simp; done) | (simp; omega) | omega) _ | refine Below.setCell ?_ (by first | (simp; done) | (simp; omega) | omega) _))⟩
theorem tk_at (s : TSet) {k : Nat} (hk : k < s.tasks.length) : s.tk k = s.tasks[k] := by
  unfold TSet.tk
  rw [getD_at hk]
theorem rank_any (s : TSet) (vt vl : Value) (tab : List St) (k : Nat) (w : World) (hv : Tasks w vt s.tasks) (hl : SlR StR 4 Any w vl tab) (hn : tab.length = s.tasks.length) (hk : k < tab.length) :
    Calls Tryz.prog 68 #[setV s vt, vl, .int .i64 k] w fun e w' => e = .returned (.int .i64 (rankS s tab k)) ∧ Below w.heap.size w w' := by
  obtain ⟨A, c, rfl, _, _⟩ := id hv
  obtain ⟨Al, cl, rfl, _, _⟩ := hl.form
  have hA := (Ext.refl w).alloc (.cells #[.int .i64 s.reload, .slice A s.tasks.length c] 24)
  have hI := ruleIs_any s (.slice A s.tasks.length c) (.slice Al tab.length cl) tab k _ (hv.ext hA) (hl.extT hA) hn
  rw [hasB_nat] at hI
  unfold setV at hI
  have hks : k < s.tasks.length := by omega
  clear hn
  obtain ⟨b, o, rfl, hx⟩ := sts_at hl hk
  obtain ⟨b2, o2, r, rfl, ht⟩ := hv.at hks
  have ht := ht.ext hA
  rw [← tk_at s hks] at ht
  obtain ⟨x0, x1, x2, x3, x4, x5, x6, x7, x8⟩ := ht.under
  have hx := hx _ hA
  have hBx : Blk (w.alloc (.cells #[.int .i64 s.reload, .slice (some ⟨b2, o2, none⟩) s.tasks.length c] 24)) w.heap.size #[.int .i64 s.reload, .slice (some ⟨b2, o2, none⟩) s.tasks.length c] 24 := Blk.new _ _ _
  have hcx := hBx.under
  have hxs : ∀ w', Ext (w.alloc (.cells #[.int .i64 s.reload, .slice (some ⟨b2, o2, none⟩) s.tasks.length c] 24)) w' → w'.cell? ⟨b, o + k * 4 + 1, none⟩ = some (.bool (stAt tab k).start) := fun w' h => h.cell hx.2.1
  have hr : rankS s tab k = if (stAt tab k).pend = true then (if (s.tk k).mode = 2 ∧ (stAt tab k).start = true then (s.tk k).theta else (k : Int)) else -1 := rfl
  have hab : Below w.heap.size w (w.alloc (.cells #[.int .i64 s.reload, .slice (some ⟨b2, o2, none⟩) s.tasks.length c] 24)) := (by repeat (first | exact Below.refl _ _ | assumption | refine Below.drew ?_ | refine Below.alloc ?_ (by first | (simp; done) | (simp; omega) | omega) _ | refine Below.setCell ?_ (by first | (simp; done) | (simp; omega) | omega) _))
  have hsz : w.heap.size ≤ (w.alloc (.cells #[.int .i64 s.reload, .slice (some ⟨b2, o2, none⟩) s.tasks.length c] 24)).heap.size := by rw [size_alloc]; omega
  have HR := Lib.hid hr
  clear hr hx ht hv hl hA
  generalize rankS s tab k = rk at HR ⊢
  generalize (s.tk k).mode = m at x3 HR
  generalize (s.tk k).theta = th at x5 HR
  generalize (stAt tab k).pend = p at hI HR
  generalize (stAt tab k).start = st at hxs HR
  clear x0 x1 x2 x4 x6 x7 x8
  go_enter Tryz.func68, Tryz.ntmps68
  unfold setV
  go_upto_region 1 with (fail)
  generalize w.alloc _ = W at hI x3 x5 hBx hcx hxs hab hsz ⊢
  have hcW := hcx W (Ext.refl W)
  go_wp2_with (fail)
  refine hI.mono ?_
  rintro e w1 ⟨rfl, hb1⟩
  have hX1 : Ext W w1 := ⟨hb1⟩
  have hc1 := hcx w1 hX1
  have x31 := x3 w1 hX1
  have x51 := x5 w1 hX1
  have hs1 := hxs w1 hX1
  have hbl : Below w.heap.size w w1 := hab.trans (hb1.mono hsz)
  clear hI hcW hcx x3 x5 hxs
  cases p with
  | false =>
    go_wp2_with (fail)
    go_ret
    exact ⟨by rw [HR.out]; rfl, hbl⟩
  | true =>
    by_cases hm : m = 2
    · cases st with
      | true =>
        have hb : (m == 2) = true := by simpa using hm
        have HE := Lib.hid (show rk = th by rw [HR.out]; simp [hm])
        clear hm
        go_wp2_with (fail)
        go_ret
        exact ⟨by rw [HE.out]; rfl, hbl⟩
      | false =>
        have hb : (m == 2) = true := by simpa using hm
        have HE := Lib.hid (show rk = k by rw [HR.out]; simp)
        clear hm
        go_wp2_with (fail)
        go_ret
        exact ⟨by rw [HE.out]; rfl, hbl⟩
    · have hb : (m == 2) = false := by simpa using hm
      have HE := Lib.hid (show rk = k by rw [HR.out]; simp [hm])
      clear hm
      go_wp2_with (fail)
      go_ret
      exact ⟨by rw [HE.out]; rfl, hbl⟩
def stepO (o : Option Int) (x : St) : Option Int := if x.pend = true then (match o with | none => some x.arr | some a => if x.arr < a then some x.arr else some a) else o
theorem old_step (tab : List St) {k : Nat} (hk : k < tab.length) : oldS (tab.take (k + 1)) = stepO (oldS (tab.take k)) (stAt tab k) := by
  unfold oldS
  rw [List.take_succ_eq_append_getElem hk, List.map_append, List.map_singleton, minO_snoc]
  have e : stAt tab k = tab[k] := by unfold stAt; rw [getD_at hk]
  rw [e]
  unfold stepO St.was
  cases tab[k].pend <;> rfl
def waitsB (tab : List St) (q tick : Int) : Bool := match oldS tab with | some a => decide (tick < a + q) | none => false
theorem waits_any (vl : Value) (tab : List St) (q tick : Int) (w : World) (hl : SlR StR 4 Any w vl tab) (hq : 0 ≤ q ∧ q ≤ 10000) (ha : ∀ i, i < tab.length → 0 ≤ (stAt tab i).arr ∧ (stAt tab i).arr ≤ 1099511627776 ∨ (stAt tab i).pend = false) :
    Calls Tryz.prog 112 #[vl, .int .i64 q, .int .i64 tick] w fun e w' => e = .returned (.bool (waitsB tab q tick)) ∧ Below w.heap.size w w' := by
  obtain ⟨Al, cl, rfl, hle, hcm⟩ := hl.form
  unfold maxLen at hcm
  have HA := Lib.hid ha
  clear ha
  go_enter Tryz.func112, Tryz.ntmps112
  go_wp2_with (fail)
  go_loopw [7, 8, 13] (fun u p i wr => ∃ (k : Nat) (o : Option Int), k ≤ tab.length ∧ u = .int .i64 (o.getD 0) ∧ p = .bool o.isSome ∧ i = .int .i64 k ∧ Hid (o = oldS (tab.take k)) ∧ Hid (∀ a, o = some a → 0 ≤ a ∧ a ≤ 1099511627776) ∧ Ext w wr) (fun _ _ i _ => tab.length - (intOf i).toNat)
  case atStart => exact ⟨0, none, Nat.zero_le _, rfl, rfl, rfl, Lib.hid rfl, Lib.hid (fun a h => by cases h), Ext.refl _⟩
  case round =>
    obtain ⟨k, o, hk, rfl, rfl, rfl, ho, hob, hX⟩ := hrel
    by_cases hlt : k < tab.length
    · obtain ⟨b, of, rfl, hx⟩ := sts_at hl hlt
      obtain ⟨h0, h1, h2, h3⟩ := hx wr hX
      have hst : oldS (tab.take (k + 1)) = stepO o (stAt tab k) := by rw [ho.out]; exact old_step tab hlt
      have hwr : IntKind.i64.wrap ((k : Int) + 1) = (k : Int) + 1 := by rw [IntKind.wrap_i64]; omega
      have har := HA.out k hlt
      have HST := Lib.hid hst
      have HAR := Lib.hid har
      clear hst har hx hl
      generalize stAt tab k = x at h0 h1 h2 h3 HST HAR
      obtain ⟨pe, st, mi, ar⟩ := x
      dsimp only at h0 h1 h2 h3 HAR
      have hA := hX.alloc (.cells #[.bool pe, .bool st, .bool mi, .int .i64 ar] 105)
      unfold stepO at HST
      dsimp only at HST
      cases pe with
      | false =>
        have hs2 := Lib.hid (show o = oldS (tab.take (k + 1)) by rw [HST.out]; simp)
        go_wp2_with (fail)
        exact ⟨⟨k + 1, o, hlt, rfl, rfl, rfl, hs2, hob, hA⟩, by simp [intOf]; omega⟩
      | true =>
        have hab : 0 ≤ ar ∧ ar ≤ 1099511627776 := by
          rcases HAR.out with h | h
          · exact h
          · cases h
        have HAB := Lib.hid hab
        clear hab
        cases o with
        | none =>
          have hs2 := Lib.hid (show some ar = oldS (tab.take (k + 1)) by rw [HST.out]; simp)
          go_wp2_with (fail)
          exact ⟨⟨k + 1, some ar, hlt, rfl, rfl, rfl, hs2, Lib.hid (fun a h => by cases h; exact HAB.out), hA⟩, by simp [intOf]; omega⟩
        | some a =>
          have hoa := Lib.hid (hob.out a rfl)
          simp only [Option.getD_some, Option.isSome_some]
          by_cases hc : ar < a
          · have hs2 := Lib.hid (show some ar = oldS (tab.take (k + 1)) by rw [HST.out]; simp [hc])
            go_wp2_with (fail)
            exact ⟨⟨k + 1, some ar, hlt, rfl, rfl, rfl, hs2, Lib.hid (fun a h => by cases h; exact HAB.out), hA⟩, by simp [intOf]; omega⟩
          · have hs2 := Lib.hid (show some a = oldS (tab.take (k + 1)) by rw [HST.out]; simp [hc])
            have hcd : decide (ar < a) = false := decide_eq_false hc
            go_wp2_with (fail)
            exact ⟨⟨k + 1, some a, hlt, rfl, rfl, rfl, hs2, Lib.hid (fun b h => by cases h; exact hoa.out), hA⟩, by simp [intOf]; omega⟩
    · obtain rfl : k = tab.length := by omega
      have ho2 : o = oldS tab := by have := ho.out; rwa [List.take_length] at this
      cases o with
      | none =>
        have HO := Lib.hid (show waitsB tab q tick = false by unfold waitsB; rw [← ho2])
        clear ho2
        go_wp2_with (fail)
        go_ret
        exact ⟨by rw [HO.out]; rfl, hX.below⟩
      | some a =>
        have hoa := hob.out a rfl
        have HO := Lib.hid (show waitsB tab q tick = decide (tick < q + a) by unfold waitsB; rw [← ho2, Int.add_comm q a])
        have hwr : IntKind.i64.wrap (q + a) = q + a := by rw [IntKind.wrap_i64]; omega
        clear ho2
        simp only [Option.getD_some, Option.isSome_some]
        go_wp2_with (fail)
        go_ret
        exact ⟨by rw [HO.out]; rfl, hX.below⟩
theorem sts_take {w : World} {A : Option Addr} {n c : Nat} {tab : List St} (h : SlR StR 4 Any w (.slice A n c) tab) {k : Nat} (hk : k ≤ tab.length) : SlR StR 4 Any w (.slice A k c) (tab.take k) := by
  obtain ⟨A', c', e1, h1, h2, h3⟩ := h
  obtain ⟨rfl, _, rfl⟩ := Value.slice.inj e1
  have hl : (tab.take k).length = k := by rw [List.length_take]; omega
  refine ⟨A, c, by rw [hl], by rw [hl]; omega, h2, fun hne => ?_⟩
  obtain ⟨b, o, e, ht, hx⟩ := h3 (fun e => hne (by rw [e]; simp))
  refine ⟨b, o, e, ht, fun i hi => ?_⟩
  rw [hl] at hi
  rw [List.getElem_take]
  exact hx i (by omega)
/-- times as they may be -/
def ArrOk (tab : List St) : Prop := ∀ i, i < tab.length → 0 ≤ (stAt tab i).arr ∧ (stAt tab i).arr ≤ 1099511627776 ∨ (stAt tab i).pend = false
theorem ArrOk.take {tab : List St} (h : ArrOk tab) {k : Nat} (hk : k ≤ tab.length) : ArrOk (tab.take k) := by
  intro i hi
  rw [List.length_take] at hi
  have e : stAt (tab.take k) i = stAt tab i := by
    unfold stAt
    simp only [List.getD, List.getElem?_take]
    rw [if_pos (by omega)]
  rw [e]
  exact h i (by omega)
theorem held_nat (s : TSet) (tab : List St) (k : Nat) (tick : Int) : heldS s tab k tick = ((stAt tab k).pend && (stAt tab k).start && (if (s.tk k).mode = 0 then (stAt tab k).mid else if (s.tk k).mode = 1 then waitsB (tab.take k) (s.tk k).q tick else false)) := by
  unfold heldS waitsB
  rw [decide_eq_true (by omega), Int.toNat_natCast, Bool.true_and]
  rfl
theorem ruleHeld_any (s : TSet) (vt vl : Value) (tab : List St) (i tick : Int) (w : World) (hv : Tasks w vt s.tasks) (hl : SlR StR 4 Any w vl tab) (hn : tab.length = s.tasks.length) (ha : ArrOk tab) (hq : ∀ k, k < s.tasks.length → 0 ≤ (s.tk k).q ∧ (s.tk k).q ≤ 10000) :
    Calls Tryz.prog 66 #[setV s vt, vl, .int .i64 i, .int .i64 tick] w fun e w' => e = .returned (.bool (heldS s tab i tick)) ∧ Below w.heap.size w w' := by
  obtain ⟨A, c, rfl, _, _⟩ := id hv
  obtain ⟨Al, cl, rfl, hcl, hcm⟩ := hl.form
  unfold maxLen at hcm
  have hA := (Ext.refl w).alloc (.cells #[.int .i64 s.reload, .slice A s.tasks.length c] 24)
  have hI := ruleIs_any s (.slice A s.tasks.length c) (.slice Al tab.length cl) tab i _ (hv.ext hA) (hl.extT hA) hn
  unfold setV at hI
  have hB : Blk (w.alloc (.cells #[.int .i64 s.reload, .slice A s.tasks.length c] 24)) w.heap.size #[.int .i64 s.reload, .slice A s.tasks.length c] 24 := Blk.new _ _ _
  have hab : Below w.heap.size w (w.alloc (.cells #[.int .i64 s.reload, .slice A s.tasks.length c] 24)) := (by repeat (first | exact Below.refl _ _ | assumption | refine Below.drew ?_ | refine Below.alloc ?_ (by first | (simp; done) | (simp; omega) | omega) _ | refine Below.setCell ?_ (by first | (simp; done) | (simp; omega) | omega) _))
  have hv2 := hv.ext hA
  have hl2 := hl.extT hA
  have hsz := hA.size
  have HI := Lib.hid hI
  have HN := Lib.hid hn
  clear hI hv hl hA hn
  cases hb : hasB tab i with
  | false =>
    have HE := Lib.hid (show heldS s tab i tick = false by
      unfold hasB at hb
      unfold heldS
      cases h1 : decide (0 ≤ i) with
      | false => rfl
      | true => rw [h1] at hb; rw [Bool.true_and] at hb; rw [hb]; rfl)
    rw [hb] at HI
    clear hb
    go_enter Tryz.func66, Tryz.ntmps66
    unfold setV
    go_upto_region 1 with (fail)
    generalize w.alloc _ = W at HI hB hab hsz hv2 hl2 ⊢
    have hcW := hB.cell
    go_wp2_with (fail)
    refine HI.out.mono ?_
    rintro e w1 ⟨rfl, hb1⟩
    go_wp2_with (fail)
    go_ret
    exact ⟨by rw [HE.out]; rfl, hab.trans (hb1.mono hsz)⟩
  | true =>
    obtain ⟨k, rfl, hk⟩ : ∃ k : Nat, i = k ∧ k < tab.length := by
      rcases int_cases i tab.length with hi | h | ⟨k, rfl, hk⟩
      · rw [hasB_neg tab hi] at hb; cases hb
      · exact h
      · rw [hasB_nat, stAt_out hk] at hb; cases hb
    have hks : k < s.tasks.length := by rw [← HN.out]; exact hk
    have HH := Lib.hid (held_nat s tab k tick)
    rw [hasB_nat] at hb
    rw [hasB_nat, hb] at HI
    rw [hb, Bool.true_and] at HH
    have hqk := hq k hks
    have hw := fun W' (h : Ext (w.alloc (.cells #[.int .i64 s.reload, .slice A s.tasks.length c] 24)) W') => waits_any (.slice Al k cl) (tab.take k) (s.tk k).q tick W' ((sts_take hl2 (Nat.le_of_lt hk)).extT h) hqk (ha.take (Nat.le_of_lt hk))
    have HW := Lib.hid hw
    clear hw hb ha hq
    obtain ⟨b, o, rfl, hx⟩ := sts_at hl2 hk
    obtain ⟨b2, o2, r, rfl, ht⟩ := hv2.at hks
    rw [← tk_at s hks] at ht
    obtain ⟨x0, x1, x2, x3, x4, x5, x6, x7, x8⟩ := ht.under
    have hxs := fun w' h => (hx w' h).2.1
    have hxm := fun w' h => (hx w' h).2.2.1
    clear x0 x1 x2 x5 x6 x7 x8 ht hx hl2 hv2
    generalize (s.tk k).mode = m at x3 HH
    generalize (s.tk k).q = qk at x4 HH HW hqk
    generalize (stAt tab k).start = st at hxs HH
    generalize (stAt tab k).mid = mi at hxm HH
    generalize waitsB (tab.take k) qk tick = wb at HH HW
    have hcx := hB.under
    have hi1 : k ≤ cl := by omega
    go_enter Tryz.func66, Tryz.ntmps66
    unfold setV
    go_upto_region 1 with (fail)
    generalize w.alloc _ = W at HI hB hab hsz hcx hxs hxm x3 x4 HW ⊢
    have hcW := hcx W (Ext.refl W)
    go_wp2_with (fail)
    refine HI.out.mono ?_
    rintro e w1 ⟨rfl, hb1⟩
    have hX1 : Ext W w1 := ⟨hb1⟩
    have hbl : Below w.heap.size w w1 := hab.trans (hb1.mono hsz)
    have hc1 := hcx w1 hX1
    have s1 := hxs w1 hX1
    have m1 := hxm w1 hX1
    have x31 := x3 w1 hX1
    have x41 := x4 w1 hX1
    clear hcW
    cases st with
    | false =>
      go_wp2_with (fail)
      go_ret
      exact ⟨by rw [HH.out]; rfl, hbl⟩
    | true =>
      rw [Bool.true_and] at HH
      by_cases hm0 : m = 0
      · have HE := Lib.hid (show heldS s tab k tick = mi by rw [HH.out, if_pos hm0])
        have hb : (m == 0) = true := by simpa using hm0
        clear hm0 HH
        go_wp2_with (fail)
        go_ret
        exact ⟨by rw [HE.out]; rfl, hbl⟩
      · have hb : (m == 0) = false := by simpa using hm0
        rw [if_neg hm0] at HH
        by_cases hm1 : m = 1
        · have HE := Lib.hid (show heldS s tab k tick = wb by rw [HH.out, if_pos hm1])
          have hb1 : (m == 1) = true := by simpa using hm1
          clear hm0 hm1 HH
          go_upto_region 7 with (fail)
          clear x31 x41 hc1 s1 m1 hxs hxm x3
          refine wp_region_all (S := Ext W) (by kernel_rfl) (by kernel_rfl) hX1.drew (fun K hK => ?_); (repeat (first | (apply hO_and; (· rfl); (· rfl); (· rfl); (· rfl); simp only [Act.put, List.setIfInBounds_toArray, List.set_cons_zero, List.set_cons_succ]) | (apply hO_or; (· rfl); (· rfl); (· rfl); (· rfl); simp only [Act.put, List.setIfInBounds_toArray, List.set_cons_zero, List.set_cons_succ]) | (apply hO_off; (· rfl); (· rfl); simp only [Act.put, List.setIfInBounds_toArray, List.set_cons_zero, List.set_cons_succ]) | (apply hO_val; (· intro w hS; go_simp; with_reducible rfl); (· rfl); simp only [Act.put, List.setIfInBounds_toArray, List.set_cons_zero, List.set_cons_succ]) | (apply hO_call; (· rfl); (· intro w hS; go_simp; exact ⟨rfl, rfl⟩); (· intro w hS; exact callX hS (HW.out _ hS)); simp only [Act.put, List.setIfInBounds_toArray, List.set_cons_zero, List.set_cons_succ]) | (apply hO_if; (· rfl); (· rfl); (· intro hif w hS; go_simp; with_reducible rfl); simp only [Act.put, List.setIfInBounds_toArray, List.set_cons_zero, List.set_cons_succ]) | (apply hO_ifcall; (· rfl); (· rfl); (· intro hif w hS; go_simp; exact ⟨rfl, rfl⟩); (· intro hif w hS; exact callX hS (HW.out _ hS)); simp only [Act.put, List.setIfInBounds_toArray, List.set_cons_zero, List.set_cons_succ]))); refine hO_nil ?_; refine hK _ ?_; clear hK K
          intro w2 hX2
          go_wp2_with (fail)
          go_ret
          exact ⟨by rw [HE.out]; rfl, hab.trans (hX2.below.mono hsz)⟩
        · have hb1 : (m == 1) = false := by simpa using hm1
          have HE := Lib.hid (show heldS s tab k tick = false by rw [HH.out, if_neg hm1])
          clear hm0 hm1 HH
          go_wp2_with (fail)
          go_ret
          exact ⟨by rw [HE.out]; rfl, hbl⟩
theorem best_step (s : TSet) (tab : List St) (n : Nat) : bestS s tab (n + 1) = if (stAt tab n).pend = true ∧ (bestS s tab n = -1 ∨ rankS s tab n ≤ rankS s tab (bestS s tab n).toNat) then (n : Int) else bestS s tab n := by
  unfold bestS
  rw [List.range_succ, List.foldl_append]
  rfl
theorem choose_any (s : TSet) (vt vl : Value) (tab : List St) (i tick : Int) (w : World) (hv : Tasks w vt s.tasks) (hl : SlR StR 4 Any w vl tab) (hn : tab.length = s.tasks.length) (ha : ArrOk tab) (hq : ∀ k, k < s.tasks.length → 0 ≤ (s.tk k).q ∧ (s.tk k).q ≤ 10000) :
    Calls Tryz.prog 38 #[setV s vt, vl, .int .i64 i, .int .i64 tick] w fun e w' => e = .returned (.int .i64 (chooseS s tab i tick)) ∧ Below w.heap.size w w' := by
  obtain ⟨A, c, rfl, hcc, hcm⟩ := id hv
  obtain ⟨Al, cl, rfl, _, _⟩ := hl.form
  unfold maxLen at hcm
  have hcm := hcm.1
  have hA := (Ext.refl w).alloc (.cells #[.int .i64 s.reload, .slice A s.tasks.length c] 24)
  have hv2 := hv.ext hA
  have hl2 := hl.extT hA
  have hH := ruleHeld_any s (.slice A s.tasks.length c) (.slice Al tab.length cl) tab i tick _ hv2 hl2 hn ha hq
  have HI := Lib.hid fun (j : Int) W' (h : Ext (w.alloc (.cells #[.int .i64 s.reload, .slice A s.tasks.length c] 24)) W') => ruleIs_any s (.slice A s.tasks.length c) (.slice Al tab.length cl) tab j W' (hv2.ext h) (hl2.extT h) hn
  have HR := Lib.hid fun (k : Nat) (hk : k < tab.length) W' (h : Ext (w.alloc (.cells #[.int .i64 s.reload, .slice A s.tasks.length c] 24)) W') => rank_any s (.slice A s.tasks.length c) (.slice Al tab.length cl) tab k W' (hv2.ext h) (hl2.extT h) hn hk
  unfold setV at hH HI HR
  have HHH := Lib.hid hH
  have hB : Blk (w.alloc (.cells #[.int .i64 s.reload, .slice A s.tasks.length c] 24)) w.heap.size #[.int .i64 s.reload, .slice A s.tasks.length c] 24 := Blk.new _ _ _
  have hab : Below w.heap.size w (w.alloc (.cells #[.int .i64 s.reload, .slice A s.tasks.length c] 24)) := (by repeat (first | exact Below.refl _ _ | assumption | refine Below.drew ?_ | refine Below.alloc ?_ (by first | (simp; done) | (simp; omega) | omega) _ | refine Below.setCell ?_ (by first | (simp; done) | (simp; omega) | omega) _))
  have hsz := hA.size
  have HN := Lib.hid hn
  have hln : s.tasks.length ≤ 9223372036854775807 := by omega
  have hcx := hB.under
  have HCH := Lib.hid (show chooseS s tab i tick = if heldS s tab i tick = true then i else bestS s tab tab.length from rfl)
  clear hH hv hl hA hv2 hl2 hn ha hq
  generalize heldS s tab i tick = hd at HHH HCH
  go_enter Tryz.func38, Tryz.ntmps38
  unfold setV
  go_upto_region 1 with (fail)
  generalize w.alloc _ = W at HI HR HHH hB hab hsz hcx ⊢
  have hcW := hcx W (Ext.refl W)
  go_wp2_with (fail)
  refine HHH.out.mono ?_
  rintro e w1 ⟨rfl, hb1⟩
  have hX1 : Ext W w1 := ⟨hb1⟩
  have hc1 := hcx w1 hX1
  clear hcW
  cases hd with
  | true =>
    have HE := Lib.hid (show chooseS s tab i tick = i by rw [HCH.out]; simp)
    go_wp2_with (fail)
    go_ret
    exact ⟨by rw [HE.out]; rfl, hab.trans (hX1.below.mono hsz)⟩
  | false =>
    have HE := Lib.hid (show chooseS s tab i tick = bestS s tab s.tasks.length by rw [HCH.out, ← HN.out]; simp)
    clear HCH HHH
    go_wp2_with (fail)
    go_loopw [9, 20] (fun b j wr => ∃ k : Nat, k ≤ s.tasks.length ∧ b = .int .i64 (bestS s tab k) ∧ j = .int .i64 k ∧ Ext W wr) (fun _ j _ => s.tasks.length - (intOf j).toNat)
    case atStart => exact ⟨0, Nat.zero_le _, rfl, rfl, hX1⟩
    case round =>
      obtain ⟨k, hk, rfl, rfl, hX⟩ := hrel
      have hcr := hcx wr hX
      clear hc1
      by_cases hlt : k < s.tasks.length
      · have hkt : k < tab.length := by rw [HN.out]; exact hlt
        have HI2 := Lib.hid fun W' (h : Ext W W') => HI.out (k : Int) W' h
        rw [hasB_nat] at HI2
        have HR1 := Lib.hid fun W' (h : Ext W W') => HR.out k hkt W' h
        have HS := Lib.hid (best_step s tab k)
        have hwr : IntKind.i64.wrap ((k : Int) + 1) = (k : Int) + 1 := by rw [IntKind.wrap_i64]; omega
        have hbs := best_spec s tab k
        rcases hbs with ⟨hb1, _⟩ | ⟨m, hb1, hb2, _, _⟩
        · rw [hb1] at HS ⊢
          have hu : ∀ p : Bool, (if p = true ∧ ((-1 : Int) = -1 ∨ rankS s tab k ≤ rankS s tab (-1 : Int).toNat) then (k : Int) else -1) = if p = true then (k : Int) else -1 := fun p => by cases p <;> simp
          rw [hu] at HS
          clear hu hb1
          generalize (stAt tab k).pend = p at HI2 HS
          cases p with
          | true =>
            have HS2 := Lib.hid (show bestS s tab (k + 1) = k by rw [HS.out]; simp)
            go_upto_region 7 with (fail)
            clear hcr
            refine wp_region_all (S := Ext W) (by kernel_rfl) (by kernel_rfl) hX.drew (fun K hK => ?_); (repeat (first | (apply hO_and (p := false) (q := true); (· rfl); (· rfl); (· rfl); (· rfl); simp only [Act.put, List.setIfInBounds_toArray, List.set_cons_zero, List.set_cons_succ]) | (apply hO_or (p := true) (q := true); (· rfl); (· rfl); (· rfl); (· rfl); simp only [Act.put, List.setIfInBounds_toArray, List.set_cons_zero, List.set_cons_succ]) | (apply hO_and; (· rfl); (· rfl); (· rfl); (· rfl); simp only [Act.put, List.setIfInBounds_toArray, List.set_cons_zero, List.set_cons_succ]) | (apply hO_or; (· rfl); (· rfl); (· rfl); (· rfl); simp only [Act.put, List.setIfInBounds_toArray, List.set_cons_zero, List.set_cons_succ]) | (apply hO_off; (· rfl); (· rfl); simp only [Act.put, List.setIfInBounds_toArray, List.set_cons_zero, List.set_cons_succ]) | (apply hO_un; (· rfl); (· rfl); simp only [Act.put, List.setIfInBounds_toArray, List.set_cons_zero, List.set_cons_succ]) | (apply hO_val; (· intro w hS; go_simp; with_reducible rfl); (· rfl); simp only [Act.put, List.setIfInBounds_toArray, List.set_cons_zero, List.set_cons_succ]) | (apply hO_call; (· rfl); (· intro w hS; go_simp; exact ⟨rfl, rfl⟩); (· intro w hS; first | exact callX hS (HI2.out _ hS) | exact callX hS (HR1.out _ hS)); simp only [Act.put, List.setIfInBounds_toArray, List.set_cons_zero, List.set_cons_succ]) | (apply hO_if; (· rfl); (· rfl); (· intro hif w hS; go_simp; with_reducible rfl); simp only [Act.put, List.setIfInBounds_toArray, List.set_cons_zero, List.set_cons_succ]) | (apply hO_ifcall; (· rfl); (· rfl); (· intro hif w hS; go_simp; exact ⟨rfl, rfl⟩); (· intro hif w hS; first | exact callX hS (HI2.out _ hS) | exact callX hS (HR1.out _ hS)); simp only [Act.put, List.setIfInBounds_toArray, List.set_cons_zero, List.set_cons_succ]))); refine hO_nil ?_; refine hK _ ?_; clear hK K
            intro w2 hX2
            have hc2 := hcx w2 hX2
            go_wp2_with (fail)
            exact ⟨⟨k + 1, hlt, by rw [HS2.out], rfl, hX2⟩, by simp [intOf]; omega⟩
          | false =>
            have HS2 := Lib.hid (show bestS s tab (k + 1) = -1 by rw [HS.out]; simp)
            go_upto_region 7 with (fail)
            clear hcr
            refine wp_region_all (S := Ext W) (by kernel_rfl) (by kernel_rfl) hX.drew (fun K hK => ?_); (repeat (first | (apply hO_and (p := false) (q := true); (· rfl); (· rfl); (· rfl); (· rfl); simp only [Act.put, List.setIfInBounds_toArray, List.set_cons_zero, List.set_cons_succ]) | (apply hO_or (p := true) (q := true); (· rfl); (· rfl); (· rfl); (· rfl); simp only [Act.put, List.setIfInBounds_toArray, List.set_cons_zero, List.set_cons_succ]) | (apply hO_and; (· rfl); (· rfl); (· rfl); (· rfl); simp only [Act.put, List.setIfInBounds_toArray, List.set_cons_zero, List.set_cons_succ]) | (apply hO_or; (· rfl); (· rfl); (· rfl); (· rfl); simp only [Act.put, List.setIfInBounds_toArray, List.set_cons_zero, List.set_cons_succ]) | (apply hO_off; (· rfl); (· rfl); simp only [Act.put, List.setIfInBounds_toArray, List.set_cons_zero, List.set_cons_succ]) | (apply hO_un; (· rfl); (· rfl); simp only [Act.put, List.setIfInBounds_toArray, List.set_cons_zero, List.set_cons_succ]) | (apply hO_val; (· intro w hS; go_simp; with_reducible rfl); (· rfl); simp only [Act.put, List.setIfInBounds_toArray, List.set_cons_zero, List.set_cons_succ]) | (apply hO_call; (· rfl); (· intro w hS; go_simp; exact ⟨rfl, rfl⟩); (· intro w hS; first | exact callX hS (HI2.out _ hS) | exact callX hS (HR1.out _ hS)); simp only [Act.put, List.setIfInBounds_toArray, List.set_cons_zero, List.set_cons_succ]) | (apply hO_if; (· rfl); (· rfl); (· intro hif w hS; go_simp; with_reducible rfl); simp only [Act.put, List.setIfInBounds_toArray, List.set_cons_zero, List.set_cons_succ]) | (apply hO_ifcall; (· rfl); (· rfl); (· intro hif w hS; go_simp; exact ⟨rfl, rfl⟩); (· intro hif w hS; first | exact callX hS (HI2.out _ hS) | exact callX hS (HR1.out _ hS)); simp only [Act.put, List.setIfInBounds_toArray, List.set_cons_zero, List.set_cons_succ]))); refine hO_nil ?_; refine hK _ ?_; clear hK K
            intro w2 hX2
            have hc2 := hcx w2 hX2
            go_wp2_with (fail)
            exact ⟨⟨k + 1, hlt, by rw [HS2.out], rfl, hX2⟩, by simp [intOf]; omega⟩
        · rw [hb1] at HS ⊢
          rw [Int.toNat_natCast] at HS
          have HR2 := Lib.hid fun W' (h : Ext W W') => HR.out m (by omega) W' h
          generalize (stAt tab k).pend = p at HI2 HS
          generalize rankS s tab k = rk at HR1 HS
          generalize rankS s tab m = rm at HR2 HS
          have hm1 : ((m : Int) == -1) = false := by simp
          cases p with
          | true =>
            go_upto_region 7 with (fail)
            clear hcr
            refine wp_region_all (S := Ext W) (by kernel_rfl) (by kernel_rfl) hX.drew (fun K hK => ?_); (repeat (first | (apply hO_and (p := false) (q := true); (· rfl); (· rfl); (· rfl); (· rfl); simp only [Act.put, List.setIfInBounds_toArray, List.set_cons_zero, List.set_cons_succ]) | (apply hO_or (p := true) (q := true); (· rfl); (· rfl); (· rfl); (· rfl); simp only [Act.put, List.setIfInBounds_toArray, List.set_cons_zero, List.set_cons_succ]) | (apply hO_and; (· rfl); (· rfl); (· rfl); (· rfl); simp only [Act.put, List.setIfInBounds_toArray, List.set_cons_zero, List.set_cons_succ]) | (apply hO_or; (· rfl); (· rfl); (· rfl); (· rfl); simp only [Act.put, List.setIfInBounds_toArray, List.set_cons_zero, List.set_cons_succ]) | (apply hO_off; (· rfl); (· rfl); simp only [Act.put, List.setIfInBounds_toArray, List.set_cons_zero, List.set_cons_succ]) | (apply hO_un; (· rfl); (· rfl); simp only [Act.put, List.setIfInBounds_toArray, List.set_cons_zero, List.set_cons_succ]) | (apply hO_val; (· intro w hS; go_simp; with_reducible rfl); (· rfl); simp only [Act.put, List.setIfInBounds_toArray, List.set_cons_zero, List.set_cons_succ]) | (apply hO_call; (· rfl); (· intro w hS; go_simp; exact ⟨rfl, rfl⟩); (· intro w hS; first | exact callX hS (HI2.out _ hS) | exact callX hS (HR1.out _ hS) | exact callX hS (HR2.out _ hS)); simp only [Act.put, List.setIfInBounds_toArray, List.set_cons_zero, List.set_cons_succ]) | (apply hO_if; (· rfl); (· rfl); (· intro hif w hS; go_simp; with_reducible rfl); simp only [Act.put, List.setIfInBounds_toArray, List.set_cons_zero, List.set_cons_succ]) | (apply hO_ifcall; (· rfl); (· rfl); (· intro hif w hS; go_simp; exact ⟨rfl, rfl⟩); (· intro hif w hS; first | exact callX hS (HI2.out _ hS) | exact callX hS (HR1.out _ hS) | exact callX hS (HR2.out _ hS)); simp only [Act.put, List.setIfInBounds_toArray, List.set_cons_zero, List.set_cons_succ]))); refine hO_nil ?_; refine hK _ ?_; clear hK K
            intro w2 hX2
            have hc2 := hcx w2 hX2
            by_cases hrr : rk ≤ rm
            · have hd : decide (rk ≤ rm) = true := decide_eq_true hrr
              have hd2 : (true && (false || decide (rk ≤ rm))) = true := by rw [hd]; rfl
              have HS2 := Lib.hid (show bestS s tab (k + 1) = k by rw [HS.out, if_pos ⟨rfl, .inr hrr⟩])
              go_wp2_with (fail)
              · exact ⟨⟨k + 1, hlt, by rw [HS2.out], rfl, hX2⟩, by simp [intOf]; omega⟩
              · rename_i h9
                rcases h9 with h9 | h9
                · cases h9
                · omega
            · have hd : decide (rk ≤ rm) = false := decide_eq_false hrr
              have HS2 := Lib.hid (show bestS s tab (k + 1) = m by rw [HS.out, if_neg (by omega)])
              go_wp2_with (fail)
              exact ⟨⟨k + 1, hlt, by rw [HS2.out], rfl, hX2⟩, by simp [intOf]; omega⟩
          | false =>
            have HS2 := Lib.hid (show bestS s tab (k + 1) = m by rw [HS.out]; simp)
            go_upto_region 7 with (fail)
            clear hcr
            refine wp_region_all (S := Ext W) (by kernel_rfl) (by kernel_rfl) hX.drew (fun K hK => ?_); (repeat (first | (apply hO_and (p := false) (q := true); (· rfl); (· rfl); (· rfl); (· rfl); simp only [Act.put, List.setIfInBounds_toArray, List.set_cons_zero, List.set_cons_succ]) | (apply hO_or (p := true) (q := true); (· rfl); (· rfl); (· rfl); (· rfl); simp only [Act.put, List.setIfInBounds_toArray, List.set_cons_zero, List.set_cons_succ]) | (apply hO_and; (· rfl); (· rfl); (· rfl); (· rfl); simp only [Act.put, List.setIfInBounds_toArray, List.set_cons_zero, List.set_cons_succ]) | (apply hO_or; (· rfl); (· rfl); (· rfl); (· rfl); simp only [Act.put, List.setIfInBounds_toArray, List.set_cons_zero, List.set_cons_succ]) | (apply hO_off; (· rfl); (· rfl); simp only [Act.put, List.setIfInBounds_toArray, List.set_cons_zero, List.set_cons_succ]) | (apply hO_un; (· rfl); (· rfl); simp only [Act.put, List.setIfInBounds_toArray, List.set_cons_zero, List.set_cons_succ]) | (apply hO_val; (· intro w hS; go_simp; with_reducible rfl); (· rfl); simp only [Act.put, List.setIfInBounds_toArray, List.set_cons_zero, List.set_cons_succ]) | (apply hO_call; (· rfl); (· intro w hS; go_simp; exact ⟨rfl, rfl⟩); (· intro w hS; first | exact callX hS (HI2.out _ hS) | exact callX hS (HR1.out _ hS) | exact callX hS (HR2.out _ hS)); simp only [Act.put, List.setIfInBounds_toArray, List.set_cons_zero, List.set_cons_succ]) | (apply hO_if; (· rfl); (· rfl); (· intro hif w hS; go_simp; with_reducible rfl); simp only [Act.put, List.setIfInBounds_toArray, List.set_cons_zero, List.set_cons_succ]) | (apply hO_ifcall; (· rfl); (· rfl); (· intro hif w hS; go_simp; exact ⟨rfl, rfl⟩); (· intro hif w hS; first | exact callX hS (HI2.out _ hS) | exact callX hS (HR1.out _ hS) | exact callX hS (HR2.out _ hS)); simp only [Act.put, List.setIfInBounds_toArray, List.set_cons_zero, List.set_cons_succ]))); refine hO_nil ?_; refine hK _ ?_; clear hK K
            intro w2 hX2
            have hc2 := hcx w2 hX2
            go_wp2_with (fail)
            exact ⟨⟨k + 1, hlt, by rw [HS2.out], rfl, hX2⟩, by simp [intOf]; omega⟩
      · obtain rfl : k = s.tasks.length := by omega
        go_wp2_with (fail)
        go_ret
        exact ⟨by rw [HE.out]; rfl, hab.trans (hX.below.mono hsz)⟩
end Go.Proofs.YtniejidekflmiaaGreatDoor
