/- The document's cache (ref18). -/
import Derived.Test.YtniejidekflmiaaGreatDoorProg
import Derived.Test.YtniejidekflmiaaGreatDoorBase
import Derived.Test.YtniejidekflmiaaGreatDoorHeldX
import Derived.Test.YtniejidekflmiaaGreatDoorApp
import Derived.Test.YtniejidekflmiaaGreatDoorExt0
import Derived.Test.YtniejidekflmiaaGreatDoorChg
import Derived.Test.YtniejidekflmiaaGreatDoorRowB
import Derived.Test.YtniejidekflmiaaGreatDoorKM
import Derived.Test.YtniejidekflmiaaGreatDoorKP1
import Derived.Test.YtniejidekflmiaaGreatDoorKbit
import Derived.Test.YtniejidekflmiaaGreatDoorKcac
import Derived.Test.YtniejidekflmiaaGreatDoorKtab
import Derived.Test.YtniejidekflmiaaGreatDoorHeldN
import Derived.Test.YtniejidekflmiaaGreatDoorOpenI
import Derived.Test.YtniejidekflmiaaGreatDoorTskZ
import Derived.Deep.Cut
import Derived.Lib.Hide
import Derived.OwnWalk
import Derived.Laws.Bits64b
import Derived.Laws.Bits128
namespace Go.Proofs.YtniejidekflmiaaGreatDoor
open Go.RowKit
attribute [local go_sem] setCell_twice ByteArray.toList_eq str_list Ext.alloc Ext.drew
set_option linter.unusedSimpArgs false
set_option linter.unusedVariables false
set_option maxRecDepth 100000
set_option maxHeartbeats 1600000
attribute [local irreducible] Calls

/-- the document's cache at gc -/
structure CacheR (w : World) (gc : Nat) (own : List Int) : Prop where
  box : Blk w gc (own.map (Value.int .i64)).toArray 96
  len : own.length = 64
section
variable {w w' : World} {gc : Nat} {own : List Int}
theorem CacheR.ext (h : CacheR w gc own) (hx : Ext w w') : CacheR w' gc own := ⟨h.box.ext hx, h.len⟩
theorem CacheR.chg {F : Nat → Prop} (h : CacheR w gc own) (hx : Chg F w w') (h1 : ¬ F gc) : CacheR w' gc own := ⟨h.box.chg hx h1, h.len⟩
theorem CacheR.at (h : CacheR w gc own) {i : Nat} (hi : i < 64) : w.cell? ⟨gc, i, none⟩ = some (.int .i64 (own.getD i 0)) := by
  have hi2 : i < own.length := by rw [h.len]; exact hi
  rw [h.box.cell, List.getElem?_toArray, List.getElem?_map, List.getElem?_eq_getElem hi2, getD_at hi2]
  rfl
theorem CacheR.set (h : CacheR w gc own) (i : Nat) (x : Int) : CacheR (w.setCell ⟨gc, i, none⟩ (.int .i64 x)) gc (own.set i x) := by
  have := h.box.set i (.int .i64 x)
  refine ⟨?_, by rw [List.length_set]; exact h.len⟩
  rw [List.map_set]
  simpa using this
end
theorem held_r18 (gc i : Nat) (own : List Int) (w : World) (h : CacheR w gc own) (hi : i < 8) :
    Calls Tryz.prog 87 #[.pointer (some ⟨gc, 0, none⟩), .int .i64 i] w fun e w' => e = .returned (.int .u64 (heldP own i 64)) ∧ w = w' := by
  have H := Lib.hid h
  clear h
  go_enter Tryz.func87, Tryz.ntmps87
  go_wp2_with (fail)
  go_loopw [5, 6] (fun x k wr => ∃ c : Nat, c ≤ 64 ∧ k = .int .i64 c ∧ x = .int .u64 (heldP own i c) ∧ w = wr) (fun _ k _ => 64 - (intOf k).toNat)
  case atStart => exact ⟨0, by omega, rfl, rfl, rfl⟩
  case round =>
    obtain ⟨c, hc, rfl, rfl, rfl⟩ := hrel
    by_cases hlt : c < 64
    · have hca := H.out.at hlt
      have hst := heldP_step own i c
      have hor := held_or (heldP own i c) c hlt (heldP_lt own i c)
      have hwp : IntKind.u64.wrap (2 ^ c) = 2 ^ c := by
        have h := Nat.pow_lt_pow_right (show 1 < 2 by decide) hlt
        rw [show (2 ^ c : Int) = ((2 ^ c : Nat) : Int) by push_cast; rfl]
        exact u64_nat (by omega)
      have HWP := Lib.hid hwp
      clear hwp
      generalize heldP own i c = x0 at *
      generalize own.getD c 0 = o at *
      have HO := Lib.hid hor
      have HS := Lib.hid hst
      clear hor hst
      have hw1 : wrap64 ((i : Int) + 1) = i + 1 := by unfold wrap64; omega
      by_cases hd : o = i + 1
      · have hdd : (o == (i : Int) + 1) = true := by simp [hd]
        have HE : heldP own i (c + 1) = x0 ||| 2 ^ c := by rw [HS.out, if_pos hd]
        go_wp2_with (fail)
        exact ⟨⟨c + 1, hlt, rfl, by rw [HE, ← HO.out, HWP.out], (by first | trivial | rfl)⟩, by simp [intOf]; omega⟩
      · have hdd : (o == (i : Int) + 1) = false := by simp [hd]
        have HE : heldP own i (c + 1) = x0 := by rw [HS.out, if_neg hd]
        go_wp2_with (fail)
        exact ⟨⟨c + 1, hlt, rfl, by rw [HE], (by first | trivial | rfl)⟩, by simp [intOf]; omega⟩
    · obtain rfl : c = 64 := by omega
      go_wp2_with (fail)
      go_ret
      exact ⟨rfl, rfl⟩
theorem lost_r18 (gc i had : Nat) (own : List Int) (w : World) (h : CacheR w gc own) (hi : i < 8) (hh : had < 18446744073709551616) :
    Calls Tryz.prog 89 #[.pointer (some ⟨gc, 0, none⟩), .int .i64 i, .int .u64 had] w fun e w' => e = .returned (.int .u64 (lostO own i had)) ∧ w = w' := by
  have hH := held_r18 gc i own w h hi
  have hb := heldP_lt own i 64
  have hL := andnot_u64 had (heldP own i 64) hh hb
  have HL := Lib.hid hL
  have HH := Lib.hid hH
  clear hH hL
  go_enter Tryz.func89, Tryz.ntmps89
  go_wp2_with (fail)
  refine HH.out.mono ?_
  rintro e w1 ⟨rfl, rfl⟩
  go_wp2_with (fail)
  go_ret
  exact ⟨by rw [HL.out, heldP_all]; rfl, rfl⟩
def touchP (own : List Int) (v : Int) (x k : Nat) : List Int := own.mapIdx fun c o => if c < k ∧ x.testBit c = true then v else o
theorem touchP_zero (own : List Int) (v : Int) (x : Nat) : touchP own v x 0 = own := by
  refine List.ext_getElem (by simp [touchP]) fun i h1 h2 => ?_
  simp [touchP]
theorem touchP_step (own : List Int) (v : Int) (x : Nat) {k : Nat} (hk : k < own.length) : touchP own v x (k + 1) = if x.testBit k = true then (touchP own v x k).set k v else touchP own v x k := by
  cases hb : x.testBit k with
  | true =>
    rw [if_pos rfl]
    refine List.ext_getElem (by simp [touchP]) fun i h1 h2 => ?_
    simp only [List.getElem_set, touchP, List.getElem_mapIdx]
    by_cases e : k = i
    · subst e
      rw [if_pos rfl, if_pos ⟨by omega, hb⟩]
    · rw [if_neg e]
      by_cases h : i < k ∧ x.testBit i = true
      · rw [if_pos h, if_pos ⟨by omega, h.2⟩]
      · rw [if_neg h, if_neg (fun h' => h ⟨by omega, h'.2⟩)]
  | false =>
    rw [if_neg (by decide)]
    refine List.ext_getElem (by simp [touchP]) fun i h1 h2 => ?_
    simp only [touchP, List.getElem_mapIdx]
    by_cases h : i < k ∧ x.testBit i = true
    · rw [if_pos h, if_pos ⟨by omega, h.2⟩]
    · rw [if_neg h, if_neg (fun h' => h ⟨by
        have : i ≠ k := fun e => by rw [e, hb] at h'; cases h'.2
        omega, h'.2⟩)]
theorem touchP_all (own : List Int) (i : Int) (x : Nat) (hl : own.length = 64) : touchP own (i + 1) x 64 = touchO own i x := by
  unfold touchP touchO
  refine List.ext_getElem (by simp) fun c h1 h2 => ?_
  have hc : c < own.length := by simpa using h1
  simp only [List.getElem_mapIdx]
  by_cases h : x.testBit c = true
  · rw [if_pos ⟨by omega, h⟩, if_pos h]
  · rw [if_neg (fun h' => h h'.2), if_neg h]
theorem touch_r18 (gc i x : Nat) (own : List Int) (w : World) (h : CacheR w gc own) (hi : i < 8) (hx : x < 18446744073709551616) :
    Calls Tryz.prog 91 #[.pointer (some ⟨gc, 0, none⟩), .int .i64 i, .int .u64 x] w fun e w' => e = .returned (.bool true) ∧ CacheR w' gc (touchO own i x) ∧ Chg (fun q => q = gc) w w' := by
  have hal := touchP_all own i x h.len
  have hz := touchP_zero own (i + 1) x
  have H := Lib.hid h
  have HAL := Lib.hid hal
  have HZ := Lib.hid hz
  have hlen := h.len
  have HLEN := Lib.hid hlen
  clear h hal hz hlen
  go_enter Tryz.func91, Tryz.ntmps91
  go_wp2_with (fail)
  go_loopw [7] (fun k wr => ∃ c : Nat, c ≤ 64 ∧ k = .int .i64 c ∧ CacheR wr gc (touchP own (i + 1) x c) ∧ Chg (fun q => q = gc) w wr) (fun k _ => 64 - (intOf k).toNat)
  case atStart => exact ⟨0, by omega, rfl, by rw [HZ.out]; exact H.out, Chg.refl _ _⟩
  case round =>
    obtain ⟨c, hc, rfl, hA, hC⟩ := hrel
    by_cases hlt : c < 64
    · have hst := touchP_step own (i + 1) x (k := c) (by rw [HLEN.out]; exact hlt)
      have hca := hA.at hlt
      have hfa := hA.box.free c
      have hHas := has_any x c hlt hx wr
      have HS := Lib.hid hst
      have HH := Lib.hid hHas
      have HA := Lib.hid hA
      have hc64 : (c : Int) < 64 := by omega
      clear hst hA hHas
      have hw1 : wrap64 ((i : Int) + 1) = i + 1 := by unfold wrap64; omega
      go_wp2_with (fail)
      refine HH.out.mono ?_
      rintro e w1 ⟨rfl, rfl⟩
      cases hb : x.testBit c with
      | true =>
        have HE := Lib.hid (show touchP own (i + 1) x (c + 1) = (touchP own (i + 1) x c).set c (i + 1) by rw [HS.out, if_pos hb])
        go_wp2_with (fail)
        exact ⟨⟨c + 1, hlt, rfl, by rw [HE.out]; exact HA.out.set c _, hC.set (.inl rfl) _⟩, by simp [intOf]; omega⟩
      | false =>
        have HE := Lib.hid (show touchP own (i + 1) x (c + 1) = touchP own (i + 1) x c by rw [HS.out, if_neg (by rw [hb]; simp)])
        go_wp2_with (fail)
        exact ⟨⟨c + 1, hlt, rfl, by rw [HE.out]; exact HA.out, hC⟩, by simp [intOf]; omega⟩
    · obtain rfl : c = 64 := by omega
      go_wp2_with (fail)
      go_ret
      exact ⟨rfl, by rw [← HAL.out]; exact hA, hC⟩
end Go.Proofs.YtniejidekflmiaaGreatDoor
/- The document's table (ref21). -/
namespace Go.Proofs.YtniejidekflmiaaGreatDoor
open Go.RowKit
attribute [local go_sem] setCell_twice ByteArray.toList_eq str_list Ext.alloc Ext.drew
set_option linter.unusedSimpArgs false
set_option linter.unusedVariables false
set_option maxRecDepth 100000
set_option maxHeartbeats 1600000
attribute [local irreducible] Calls

theorem has_r21 (gt g : Nat) (tab : List St) (i : Int) (w : World) (h : TabAt 71 w gt g tab) :
    Calls Tryz.prog 116 #[.pointer (some ⟨gt, 0, none⟩), .int .i64 i] w fun e w' => e = .returned (.bool (hasB tab i)) ∧ w = w' := by
  have hc := h.box.cell
  have hl := h.len
  rcases int_cases i tab.length with hi | ⟨k, rfl, hk⟩ | ⟨k, rfl, hk⟩
  · have HE := Lib.hid (hasB_neg tab hi)
    have hd : decide (0 ≤ i) = false := decide_eq_false (by omega)
    go_enter Tryz.func116, Tryz.ntmps116
    go_wp2_with (fail)
    go_ret
    exact ⟨by rw [HE.out]; rfl, by first | trivial | rfl⟩
  · have HE := Lib.hid (hasB_nat tab k)
    obtain ⟨h0, h1, h2, h3⟩ := h.cells hk
    clear h1 h2 h3
    generalize (stAt tab k).pend = p at h0 HE
    go_enter Tryz.func116, Tryz.ntmps116
    go_wp2_with (fail)
    go_ret
    exact ⟨by rw [HE.out]; rfl, by first | trivial | rfl⟩
  · have HE := Lib.hid (show hasB tab k = false by rw [hasB_nat, stAt_out hk]; rfl)
    go_enter Tryz.func116, Tryz.ntmps116
    go_wp2_with (fail)
    go_ret
    exact ⟨by rw [HE.out]; rfl, by first | trivial | rfl⟩
theorem begin_r21 (gt g : Nat) (tab : List St) (k : Nat) (w : World) (h : TabAt 71 w gt g tab) (hk : k < tab.length) :
    Calls Tryz.prog 88 #[.pointer (some ⟨gt, 0, none⟩), .int .i64 k] w fun e w' => e = .returned (.bool (stAt tab k).pend) ∧ TabAt 71 w' gt g (modT tab k (fun x => { x with start := true })) ∧ Chg (fun q => q = g) w w' := by
  have hH := has_r21 gt g tab k w h
  rw [hasB_nat] at hH
  have hc := h.box.cell
  have hf := h.row.free
  have hl := h.len
  have he : stAt tab k = tab[k] := by unfold stAt; rw [getD_at hk]
  have hne : gt ≠ g := h.box.apart (show Blk w g _ _ from h.row) (by decide)
  cases hb : (stAt tab k).pend with
  | false =>
    rw [hb] at hH
    have HH := Lib.hid hH
    have HM := Lib.hid (modT_off (fun x => { x with start := true }) hb)
    clear hH hb he
    go_enter Tryz.func88, Tryz.ntmps88
    go_wp2_with (fail)
    refine HH.out.mono ?_
    rintro e w1 ⟨rfl, rfl⟩
    go_wp2_with (fail)
    go_ret
    exact ⟨rfl, by rw [HM.out]; exact h, Chg.refl _ _⟩
  | true =>
    rw [hb] at hH
    have HH := Lib.hid hH
    have HM := Lib.hid (modT_on (fun x => { x with start := true }) hb)
    have HE := Lib.hid he
    obtain ⟨h0, h1, h2, h3⟩ := h.cells hk
    have H := Lib.hid h
    clear hH hb he h
    generalize (stAt tab k).pend = q0 at h0
    generalize (stAt tab k).start = q1 at h1
    generalize (stAt tab k).mid = q2 at h2
    generalize (stAt tab k).arr = q3 at h3
    go_enter Tryz.func88, Tryz.ntmps88
    go_wp2_with (fail)
    refine HH.out.mono ?_
    rintro e w1 ⟨rfl, rfl⟩
    go_wp2_with (fail)
    go_ret
    refine ⟨rfl, ?_, ?_⟩
    · rw [HM.out]
      refine ⟨?_, ?_, by rw [List.length_set]; exact H.out.len⟩
      · rw [List.length_set]
        exact H.out.box.far (p := ⟨g, k * 4 + 1, none⟩) hne _
      · exact H.out.row.set encSt_len (j := 1) (by decide) (fun _ => by rw [HE.out]; rfl)
    · exact (Chg.refl (fun q => q = g) w).set (.inl rfl) _
theorem mid_r21 (gt g : Nat) (tab : List St) (k : Nat) (b : Bool) (w : World) (h : TabAt 71 w gt g tab) (hk : k < tab.length) :
    Calls Tryz.prog 94 #[.pointer (some ⟨gt, 0, none⟩), .int .i64 k, .bool b] w fun e w' => e = .returned (.bool (stAt tab k).pend) ∧ TabAt 71 w' gt g (modT tab k (fun x => { x with mid := b })) ∧ Chg (fun q => q = g) w w' := by
  have hH := has_r21 gt g tab k w h
  rw [hasB_nat] at hH
  have hc := h.box.cell
  have hf := h.row.free
  have hl := h.len
  have he : stAt tab k = tab[k] := by unfold stAt; rw [getD_at hk]
  have hne : gt ≠ g := h.box.apart (show Blk w g _ _ from h.row) (by decide)
  cases hb : (stAt tab k).pend with
  | false =>
    rw [hb] at hH
    have HH := Lib.hid hH
    have HM := Lib.hid (modT_off (fun x => { x with mid := b }) hb)
    clear hH hb he
    go_enter Tryz.func94, Tryz.ntmps94
    go_wp2_with (fail)
    refine HH.out.mono ?_
    rintro e w1 ⟨rfl, rfl⟩
    go_wp2_with (fail)
    go_ret
    exact ⟨rfl, by rw [HM.out]; exact h, Chg.refl _ _⟩
  | true =>
    rw [hb] at hH
    have HH := Lib.hid hH
    have HM := Lib.hid (modT_on (fun x => { x with mid := b }) hb)
    have HE := Lib.hid he
    obtain ⟨h0, h1, h2, h3⟩ := h.cells hk
    have H := Lib.hid h
    clear hH hb he h
    generalize (stAt tab k).pend = q0 at h0
    generalize (stAt tab k).start = q1 at h1
    generalize (stAt tab k).mid = q2 at h2
    generalize (stAt tab k).arr = q3 at h3
    go_enter Tryz.func94, Tryz.ntmps94
    go_wp2_with (fail)
    refine HH.out.mono ?_
    rintro e w1 ⟨rfl, rfl⟩
    go_wp2_with (fail)
    go_ret
    refine ⟨rfl, ?_, ?_⟩
    · rw [HM.out]
      refine ⟨?_, ?_, by rw [List.length_set]; exact H.out.len⟩
      · rw [List.length_set]
        exact H.out.box.far (p := ⟨g, k * 4 + 2, none⟩) hne _
      · exact H.out.row.set encSt_len (j := 2) (by decide) (fun _ => by rw [HE.out]; rfl)
    · exact (Chg.refl (fun q => q = g) w).set (.inl rfl) _
theorem drop_r21 (gt g : Nat) (tab : List St) (k : Nat) (w : World) (h : TabAt 71 w gt g tab) (hk : k < tab.length) :
    Calls Tryz.prog 119 #[.pointer (some ⟨gt, 0, none⟩), .int .i64 k] w fun e w' => e = .returned (.bool (stAt tab k).pend) ∧ TabAt 71 w' gt g (modT tab k (fun _ => St.zero)) ∧ Chg (fun q => q = g) w w' := by
  have hH := has_r21 gt g tab k w h
  rw [hasB_nat] at hH
  have hc := h.box.cell
  have hf := h.row.free
  have hl := h.len
  have he : stAt tab k = tab[k] := by unfold stAt; rw [getD_at hk]
  have hne : gt ≠ g := h.box.apart (show Blk w g _ _ from h.row) (by decide)
  cases hb : (stAt tab k).pend with
  | false =>
    rw [hb] at hH
    have HH := Lib.hid hH
    have HM := Lib.hid (modT_off (fun _ => St.zero) hb)
    clear hH hb he
    go_enter Tryz.func119, Tryz.ntmps119
    go_wp2_with (fail)
    refine HH.out.mono ?_
    rintro e w1 ⟨rfl, rfl⟩
    go_wp2_with (fail)
    go_ret
    exact ⟨rfl, by rw [HM.out]; exact h, Chg.refl _ _⟩
  | true =>
    rw [hb] at hH
    have HH := Lib.hid hH
    have HM := Lib.hid (modT_on (fun _ => St.zero) hb)
    have HE := Lib.hid he
    obtain ⟨h0, h1, h2, h3⟩ := h.cells hk
    have H := Lib.hid h
    clear hH hb he h
    generalize (stAt tab k).pend = q0 at h0
    generalize (stAt tab k).start = q1 at h1
    generalize (stAt tab k).mid = q2 at h2
    generalize (stAt tab k).arr = q3 at h3
    go_enter Tryz.func119, Tryz.ntmps119
    go_wp2_with (fail)
    refine HH.out.mono ?_
    rintro e w1 ⟨rfl, rfl⟩
    go_wp2_with (fail)
    go_ret
    refine ⟨rfl, ?_, ?_⟩
    · rw [HM.out]
      refine ⟨?_, ?_, by rw [List.length_set]; exact H.out.len⟩
      · rw [List.length_set]
        exact (((H.out.box.far (p := ⟨g, k * 4, none⟩) hne _).far (p := ⟨g, k * 4 + 1, none⟩) hne _).far (p := ⟨g, k * 4 + 2, none⟩) hne _).far (p := ⟨g, k * 4 + 3, none⟩) hne _
      · exact row_all H.out.row hk St.zero
    · exact ((((Chg.refl (fun q => q = g) w).set (.inl rfl) _).set (.inl rfl) _).set (.inl rfl) _).set (.inl rfl) _
theorem put_r21 (gt g : Nat) (tab : List St) (k : Nat) (tick : Int) (w : World) (h : TabAt 71 w gt g tab) (hk : k < tab.length) :
    Calls Tryz.prog 81 #[.pointer (some ⟨gt, 0, none⟩), .int .i64 k, .int .i64 tick] w fun e w' => e = .returned (.bool (!(stAt tab k).pend)) ∧ TabAt 71 w' gt g (if (stAt tab k).pend = true then tab else tab.set k ⟨true, false, false, tick⟩) ∧ Chg (fun q => q = g) w w' := by
  have hH := has_r21 gt g tab k w h
  rw [hasB_nat] at hH
  have hc := h.box.cell
  have hf := h.row.free
  have hl := h.len
  have hne : gt ≠ g := h.box.apart (show Blk w g _ _ from h.row) (by decide)
  have hd : decide ((tab.length : Int) ≤ (k : Int)) = false := decide_eq_false (by omega)
  cases hb : (stAt tab k).pend with
  | true =>
    rw [hb] at hH
    have HH := Lib.hid hH
    have H := Lib.hid h
    rw [if_pos rfl]
    clear hH hb h
    go_enter Tryz.func81, Tryz.ntmps81
    go_wp2_with (fail)
    refine HH.out.mono ?_
    rintro e w1 ⟨rfl, rfl⟩
    go_wp2_with (fail)
    go_ret
    exact ⟨rfl, H.out, Chg.refl _ _⟩
  | false =>
    rw [hb] at hH
    have HH := Lib.hid hH
    obtain ⟨h0, h1, h2, h3⟩ := h.cells hk
    have H := Lib.hid h
    rw [if_neg (by decide)]
    clear hH hb h
    generalize (stAt tab k).pend = q0 at h0
    generalize (stAt tab k).start = q1 at h1
    generalize (stAt tab k).mid = q2 at h2
    generalize (stAt tab k).arr = q3 at h3
    go_enter Tryz.func81, Tryz.ntmps81
    go_wp2_with (fail)
    refine HH.out.mono ?_
    rintro e w1 ⟨rfl, rfl⟩
    go_wp2_with (fail)
    go_ret
    refine ⟨rfl, ⟨?_, ?_, by rw [List.length_set]; exact H.out.len⟩, ?_⟩
    · rw [List.length_set]
      exact (((H.out.box.far (p := ⟨g, k * 4, none⟩) hne _).far (p := ⟨g, k * 4 + 1, none⟩) hne _).far (p := ⟨g, k * 4 + 2, none⟩) hne _).far (p := ⟨g, k * 4 + 3, none⟩) hne _
    · exact row_all H.out.row hk ⟨true, false, false, tick⟩
    · exact ((((Chg.refl (fun q => q = g) w).set (.inl rfl) _).set (.inl rfl) _).set (.inl rfl) _).set (.inl rfl) _
theorem new_r21 (n : Nat) (w : World) (hn : 1 ≤ n ∧ n ≤ 8) :
    Calls Tryz.prog 34 #[.int .i64 n] w fun e w' => ∃ gt g, e = .returned (.pointer (some ⟨gt, 0, none⟩)) ∧ TabAt 71 w' gt g (List.replicate n St.zero) ∧ w.heap.size ≤ gt ∧ w.heap.size ≤ g ∧ Ext w w' := by
  have hmk := make_st hn.2 w
  have hd1 : decide ((n : Int) < 1) = false := decide_eq_false (by omega)
  have hd2 : decide ((8 : Int) < (n : Int)) = false := decide_eq_false (by omega)
  have HN := Lib.hid hn
  clear hn
  have hl : (List.replicate n St.zero).length = n := List.length_replicate
  have HL := Lib.hid hl
  clear hl
  generalize List.replicate n St.zero = zs at hmk HL ⊢
  generalize hcs : (zs.flatMap encSt).toArray = cs at hmk
  have HCS := Lib.hid hcs
  clear hcs
  go_enter Tryz.func34, Tryz.ntmps34
  go_wp2_with (fail)
  go_ret
  refine ⟨_, _, rfl, ⟨?_, ?_, by rw [HL.out]; exact HN.out.2⟩, ?_, Nat.le_refl _, ((Ext.refl w).alloc _).alloc _⟩
  · rw [HL.out]
    exact Blk.new_at _ _ _ _ (by simp)
  · show Blk _ _ (zs.flatMap encSt).toArray _
    rw [HCS.out]
    exact (Blk.new _ _ _).alloc _
  · simp
end Go.Proofs.YtniejidekflmiaaGreatDoor
/- The document's choice of who runs (ref24, ref21.Oldest). -/
namespace Go.Proofs.YtniejidekflmiaaGreatDoor
open Go.RowKit
attribute [local go_sem] setCell_twice ByteArray.toList_eq str_list Ext.alloc Ext.drew
set_option linter.unusedSimpArgs false
set_option linter.unusedVariables false
set_option maxRecDepth 100000
set_option maxHeartbeats 1600000
attribute [local irreducible] Calls

theorem there_r24 (vl : Value) (tab : List St) (i : Int) (w : World) (hl : SlR StR 4 Any w vl tab) :
    Calls Tryz.prog 85 #[vl, .int .i64 i] w fun e w' => e = .returned (.bool (hasB tab i)) ∧ Below w.heap.size w w' := by
  obtain ⟨Al, cl, rfl, _, _⟩ := hl.form
  rcases int_cases i tab.length with hi | ⟨k, rfl, hk⟩ | ⟨k, rfl, hk⟩
  · have HE := Lib.hid (hasB_neg tab hi)
    have hd : decide (0 ≤ i) = false := decide_eq_false (by omega)
    clear hl
    go_enter Tryz.func85, Tryz.ntmps85
    go_wp2_with (fail)
    go_ret
    exact ⟨by rw [HE.out]; rfl, Below.refl _ _⟩
  · have HE := Lib.hid (hasB_nat tab k)
    obtain ⟨b, o, rfl, hx⟩ := sts_at hl hk
    have hx0 := (hx _ (Ext.refl w)).1
    clear hx hl
    generalize (stAt tab k).pend = p at hx0 HE
    go_enter Tryz.func85, Tryz.ntmps85
    go_wp2_with (fail)
    go_ret
    exact ⟨by rw [HE.out]; rfl, Below.refl _ _⟩
  · have HE := Lib.hid (show hasB tab k = false by rw [hasB_nat, stAt_out hk]; rfl)
    have hd : decide ((k : Int) < (tab.length : Int)) = false := decide_eq_false (by omega)
    clear hl
    go_enter Tryz.func85, Tryz.ntmps85
    go_wp2_with (fail)
    go_ret
    exact ⟨by rw [HE.out]; rfl, Below.refl _ _⟩
theorem rank_r24 (s : TSet) (vt vl : Value) (tab : List St) (k : Nat) (w : World) (hv : Tasks w vt s.tasks) (hl : SlR StR 4 Any w vl tab) (hn : tab.length = s.tasks.length) (hk : k < tab.length) :
    Calls Tryz.prog 86 #[setV s vt, vl, .int .i64 k] w fun e w' => e = .returned (.int .i64 (rankS s tab k)) ∧ Below w.heap.size w w' := by
  obtain ⟨A, c, rfl, _, _⟩ := id hv
  obtain ⟨Al, cl, rfl, _, _⟩ := hl.form
  have hA := (Ext.refl w).alloc (.cells #[.int .i64 s.reload, .slice A s.tasks.length c] 24)
  have hI := there_r24 (.slice Al tab.length cl) tab k _ (hl.extT hA)
  rw [hasB_nat] at hI
  have hks : k < s.tasks.length := by omega
  clear hn
  obtain ⟨b, o, rfl, hx⟩ := sts_at hl hk
  obtain ⟨b2, o2, r, rfl, ht⟩ := hv.at hks
  have ht := ht.ext hA
  rw [← tk_at s hks] at ht
  obtain ⟨x0, x1, x2, x3, x4, x5, x6, x7, x8⟩ := ht.under
  have hx := hx _ hA
  have hBx : Blk (w.alloc (.cells #[.int .i64 s.reload, .slice (some ⟨b2, o2, none⟩) s.tasks.length c] 24)) w.heap.size #[.int .i64 s.reload, .slice (some ⟨b2, o2, none⟩) s.tasks.length c] 24 := Blk.new _ _ _
  have hcx := hBx.under
  have hxs : ∀ w', Ext (w.alloc (.cells #[.int .i64 s.reload, .slice (some ⟨b2, o2, none⟩) s.tasks.length c] 24)) w' → w'.cell? ⟨b, o + k * 4 + 1, none⟩ = some (.bool (stAt tab k).start) := fun w' h => h.cell hx.2.1
  have hr : rankS s tab k = if (stAt tab k).pend = true then (if (s.tk k).mode = 2 ∧ (stAt tab k).start = true then (s.tk k).theta else (k : Int)) else -1 := rfl
  have hab : Below w.heap.size w (w.alloc (.cells #[.int .i64 s.reload, .slice (some ⟨b2, o2, none⟩) s.tasks.length c] 24)) := (by repeat (first | exact Below.refl _ _ | assumption | refine Below.drew ?_ | refine Below.alloc ?_ (by first | (simp; done) | (simp; omega) | omega) _ | refine Below.setCell ?_ (by first | (simp; done) | (simp; omega) | omega) _))
  have hsz : w.heap.size ≤ (w.alloc (.cells #[.int .i64 s.reload, .slice (some ⟨b2, o2, none⟩) s.tasks.length c] 24)).heap.size := by rw [size_alloc]; omega
  have HR := Lib.hid hr
  clear hr hx ht hv hl hA
  generalize rankS s tab k = rk at HR ⊢
  generalize (s.tk k).mode = m at x3 HR
  generalize (s.tk k).theta = th at x5 HR
  generalize (stAt tab k).pend = p at hI HR
  generalize (stAt tab k).start = st at hxs HR
  clear x0 x1 x2 x4 x6 x7 x8
  go_enter Tryz.func86, Tryz.ntmps86
  unfold setV
  go_upto_region 1 with (fail)
  generalize w.alloc _ = W at hI x3 x5 hBx hcx hxs hab hsz ⊢
  have hcW := hcx W (Ext.refl W)
  go_wp2_with (fail)
  refine hI.mono ?_
  rintro e w1 ⟨rfl, hb1⟩
  have hX1 : Ext W w1 := ⟨hb1⟩
  have hc1 := hcx w1 hX1
  have x31 := x3 w1 hX1
  have x51 := x5 w1 hX1
  have hs1 := hxs w1 hX1
  have hbl : Below w.heap.size w w1 := hab.trans (hb1.mono hsz)
  clear hI hcW hcx x3 x5 hxs
  cases p with
  | false =>
    go_wp2_with (fail)
    go_ret
    exact ⟨by rw [HR.out]; rfl, hbl⟩
  | true =>
    by_cases hm : m = 2
    · cases st with
      | true =>
        have hb : (m == 2) = true := by simpa using hm
        have HE := Lib.hid (show rk = th by rw [HR.out]; simp [hm])
        clear hm
        go_wp2_with (fail)
        go_ret
        exact ⟨by rw [HE.out]; rfl, hbl⟩
      | false =>
        have hb : (m == 2) = true := by simpa using hm
        have HE := Lib.hid (show rk = k by rw [HR.out]; simp)
        clear hm
        go_wp2_with (fail)
        go_ret
        exact ⟨by rw [HE.out]; rfl, hbl⟩
    · have hb : (m == 2) = false := by simpa using hm
      have HE := Lib.hid (show rk = k by rw [HR.out]; simp [hm])
      clear hm
      go_wp2_with (fail)
      go_ret
      exact ⟨by rw [HE.out]; rfl, hbl⟩
theorem oldest_r21 (vl : Value) (tab : List St) (n : Nat) (w : World) (hl : SlR StR 4 Any w vl tab) (hn : n ≤ tab.length) (ha : ArrOk tab) :
    Calls Tryz.prog 117 #[vl, .int .i64 n] w fun e w' => e = .returned (.tuple #[.int .i64 ((oldS (tab.take n)).getD 0), .bool (oldS (tab.take n)).isSome]) ∧ Below w.heap.size w w' := by
  obtain ⟨Al, cl, rfl, hle, hcm⟩ := hl.form
  unfold maxLen at hcm
  obtain ⟨r, hr⟩ : ∃ r, oldS (tab.take n) = r := ⟨_, rfl⟩
  rw [hr]
  have HR := Lib.hid hr
  clear hr ha
  go_enter Tryz.func117, Tryz.ntmps117
  go_wp2_with (fail)
  go_loopw [6, 7, 8] (fun u p i wr => ∃ (k : Nat) (o : Option Int), k ≤ n ∧ u = .int .i64 (o.getD 0) ∧ p = .bool o.isSome ∧ i = .int .i64 k ∧ Hid (o = oldS (tab.take k)) ∧ w = wr) (fun _ _ i _ => n - (intOf i).toNat)
  case atStart => exact ⟨0, none, Nat.zero_le _, rfl, rfl, rfl, Lib.hid rfl, rfl⟩
  case round =>
    obtain ⟨k, o, hk, rfl, rfl, rfl, ho, rfl⟩ := hrel
    by_cases hlt : k < n
    · have hkt : k < tab.length := by omega
      obtain ⟨b, of, rfl, hx⟩ := sts_at hl hkt
      obtain ⟨h0, h1, h2, h3⟩ := hx w (Ext.refl w)
      have hst : oldS (tab.take (k + 1)) = stepO o (stAt tab k) := by rw [ho.out]; exact old_step tab hkt
      have HST := Lib.hid hst
      clear hst hx hl
      generalize stAt tab k = x at h0 h1 h2 h3 HST
      obtain ⟨pe, st, mi, ar⟩ := x
      dsimp only at h0 h1 h2 h3
      unfold stepO at HST
      dsimp only at HST
      cases pe with
      | false =>
        have hs2 := Lib.hid (show o = oldS (tab.take (k + 1)) by rw [HST.out]; simp)
        go_wp2_with (fail)
        exact ⟨⟨k + 1, o, hlt, rfl, rfl, rfl, hs2, (by first | trivial | rfl)⟩, by simp [intOf]; omega⟩
      | true =>
        cases o with
        | none =>
          have hs2 := Lib.hid (show some ar = oldS (tab.take (k + 1)) by rw [HST.out]; simp)
          simp only [Option.getD_none, Option.isSome_none]
          go_wp2_with (fail)
          exact ⟨⟨k + 1, some ar, hlt, rfl, rfl, rfl, hs2, (by first | trivial | rfl)⟩, by simp [intOf]; omega⟩
        | some a =>
          simp only [Option.getD_some, Option.isSome_some]
          by_cases hc : ar < a
          · have hs2 := Lib.hid (show some ar = oldS (tab.take (k + 1)) by rw [HST.out]; simp [hc])
            go_wp2_with (fail)
            exact ⟨⟨k + 1, some ar, hlt, rfl, rfl, rfl, hs2, (by first | trivial | rfl)⟩, by simp [intOf]; omega⟩
          · have hs2 := Lib.hid (show some a = oldS (tab.take (k + 1)) by rw [HST.out]; simp [hc])
            have hcd : decide (ar < a) = false := decide_eq_false hc
            go_wp2_with (fail)
            exact ⟨⟨k + 1, some a, hlt, rfl, rfl, rfl, hs2, (by first | trivial | rfl)⟩, by simp [intOf]; omega⟩
    · obtain rfl : k = n := by omega
      have hro : o = r := ho.out.trans HR.out
      subst hro
      go_wp2_with (fail)
      refine bodyPost_ret (v := .tuple #[.int .i64 (o.getD 0), .bool o.isSome]) (by simp [results, Tryz.results117, go_sem, *]) rfl ⟨rfl, Below.refl _ _⟩
theorem held_r24 (s : TSet) (vt vl : Value) (tab : List St) (i tick : Int) (w : World) (hv : Tasks w vt s.tasks) (hl : SlR StR 4 Any w vl tab) (hn : tab.length = s.tasks.length) (ha : ArrOk tab) (hq : ∀ k, k < s.tasks.length → 0 ≤ (s.tk k).q ∧ (s.tk k).q ≤ 10000) :
    Calls Tryz.prog 84 #[setV s vt, vl, .int .i64 i, .int .i64 tick] w fun e w' => e = .returned (.bool (heldS s tab i tick)) ∧ Below w.heap.size w w' := by
  obtain ⟨A, c, rfl, _, _⟩ := id hv
  obtain ⟨Al, cl, rfl, hcl, hcm⟩ := hl.form
  unfold maxLen at hcm
  have hA := (Ext.refl w).alloc (.cells #[.int .i64 s.reload, .slice A s.tasks.length c] 24)
  have hI := there_r24 (.slice Al tab.length cl) tab i _ (hl.extT hA)
  have hB : Blk (w.alloc (.cells #[.int .i64 s.reload, .slice A s.tasks.length c] 24)) w.heap.size #[.int .i64 s.reload, .slice A s.tasks.length c] 24 := Blk.new _ _ _
  have hab : Below w.heap.size w (w.alloc (.cells #[.int .i64 s.reload, .slice A s.tasks.length c] 24)) := (by repeat (first | exact Below.refl _ _ | assumption | refine Below.drew ?_ | refine Below.alloc ?_ (by first | (simp; done) | (simp; omega) | omega) _ | refine Below.setCell ?_ (by first | (simp; done) | (simp; omega) | omega) _))
  have hv2 := hv.ext hA
  have hl2 := hl.extT hA
  have hsz := hA.size
  have HI := Lib.hid hI
  have HN := Lib.hid hn
  clear hI hv hl hA hn
  cases hb : hasB tab i with
  | false =>
    have HE := Lib.hid (show heldS s tab i tick = false by
      unfold hasB at hb
      unfold heldS
      cases h1 : decide (0 ≤ i) with
      | false => rfl
      | true => rw [h1] at hb; rw [Bool.true_and] at hb; rw [hb]; rfl)
    rw [hb] at HI
    clear hb
    go_enter Tryz.func84, Tryz.ntmps84
    unfold setV
    go_upto_region 1 with (fail)
    generalize w.alloc _ = W at HI hB hab hsz hv2 hl2 ⊢
    have hcW := hB.cell
    go_wp2_with (fail)
    refine HI.out.mono ?_
    rintro e w1 ⟨rfl, hb1⟩
    go_wp2_with (fail)
    go_ret
    exact ⟨by rw [HE.out]; rfl, hab.trans (hb1.mono hsz)⟩
  | true =>
    obtain ⟨k, rfl, hk⟩ : ∃ k : Nat, i = k ∧ k < tab.length := by
      rcases int_cases i tab.length with hi | h | ⟨k, rfl, hk⟩
      · rw [hasB_neg tab hi] at hb; cases hb
      · exact h
      · rw [hasB_nat, stAt_out hk] at hb; cases hb
    have hks : k < s.tasks.length := by rw [← HN.out]; exact hk
    have HH := Lib.hid (held_nat s tab k tick)
    rw [hasB_nat] at hb
    rw [hasB_nat, hb] at HI
    rw [hb, Bool.true_and] at HH
    have hqk := hq k hks
    have hw := fun W' (h : Ext (w.alloc (.cells #[.int .i64 s.reload, .slice A s.tasks.length c] 24)) W') => oldest_r21 (.slice Al tab.length cl) tab k W' (hl2.extT h) (Nat.le_of_lt hk) ha
    have HW := Lib.hid hw
    have hob : ∀ a, oldS (tab.take k) = some a → 0 ≤ a ∧ a ≤ 1099511627776 := fun a hoa => by
      obtain ⟨⟨j, hj1, hj2⟩, _⟩ := (old_some (Nat.le_of_lt hk)).1 hoa
      have hw1 := was_pend hj2
      rcases ha j (by omega) with h | h
      · rw [hw1.2] at h; exact h
      · rw [hw1.1] at h; cases h
    have HOB := Lib.hid hob
    have hwb : waitsB (tab.take k) (s.tk k).q tick = match oldS (tab.take k) with | some a => decide (tick < a + (s.tk k).q) | none => false := rfl
    have HWB := Lib.hid hwb
    clear hw hb ha hq hob hwb
    obtain ⟨b, o, rfl, hx⟩ := sts_at hl2 hk
    obtain ⟨b2, o2, r, rfl, ht⟩ := hv2.at hks
    rw [← tk_at s hks] at ht
    obtain ⟨x0, x1, x2, x3, x4, x5, x6, x7, x8⟩ := ht.under
    have hxs := fun w' h => (hx w' h).2.1
    have hxm := fun w' h => (hx w' h).2.2.1
    clear x0 x1 x2 x5 x6 x7 x8 ht hx hl2 hv2
    generalize (s.tk k).mode = m at x3 HH
    generalize (s.tk k).q = qk at x4 HH HWB hqk
    generalize (stAt tab k).start = st at hxs HH
    generalize (stAt tab k).mid = mi at hxm HH
    generalize oldS (tab.take k) = od at HW HOB HWB
    generalize waitsB (tab.take k) qk tick = wb at HH HWB
    have hcx := hB.under
    have hi1 : k ≤ cl := by omega
    go_enter Tryz.func84, Tryz.ntmps84
    unfold setV
    go_upto_region 1 with (fail)
    generalize w.alloc _ = W at HI hB hab hsz hcx hxs hxm x3 x4 HW ⊢
    have hcW := hcx W (Ext.refl W)
    go_wp2_with (fail)
    refine HI.out.mono ?_
    rintro e w1 ⟨rfl, hb1⟩
    have hX1 : Ext W w1 := ⟨hb1⟩
    have hbl : Below w.heap.size w w1 := hab.trans (hb1.mono hsz)
    have hc1 := hcx w1 hX1
    have s1 := hxs w1 hX1
    have m1 := hxm w1 hX1
    have x31 := x3 w1 hX1
    have x41 := x4 w1 hX1
    clear hcW
    cases st with
    | false =>
      go_wp2_with (fail)
      go_ret
      exact ⟨by rw [HH.out]; rfl, hbl⟩
    | true =>
      rw [Bool.true_and] at HH
      by_cases hm0 : m = 0
      · have HE := Lib.hid (show heldS s tab k tick = mi by rw [HH.out, if_pos hm0])
        have hb : (m == 0) = true := by simpa using hm0
        clear hm0 HH
        go_wp2_with (fail)
        go_ret
        exact ⟨by rw [HE.out]; rfl, hbl⟩
      · have hb : (m == 0) = false := by simpa using hm0
        rw [if_neg hm0] at HH
        by_cases hm1 : m = 1
        · have HE := Lib.hid (show heldS s tab k tick = wb by rw [HH.out, if_pos hm1])
          have hb1 : (m == 1) = true := by simpa using hm1
          clear hm0 hm1 HH
          go_upto_region 7 with (fail)
          clear x31 hc1 s1 m1 hxs hxm x3
          go_wp2_with (fail)
          refine (HW.out w1 hX1).mono ?_
          rintro e w2 ⟨rfl, hb2⟩
          have hX2 := hX1.trans ⟨hb2⟩
          have x42 := x4 w2 hX2
          have hc2 := hcx w2 hX2
          have hbl2 := hab.trans (hX2.below.mono hsz)
          clear x41
          cases od with
          | none =>
            have hwf : wb = false := HWB.out
            rw [hwf] at HE
            simp only [Option.getD_none, Option.isSome_none]
            go_wp2_with (fail)
            go_ret
            exact ⟨by rw [HE.out]; rfl, hbl2⟩
          | some a =>
            have hwf : wb = decide (tick < a + qk) := HWB.out
            rw [hwf] at HE
            have hao := HOB.out a rfl
            have hwr : IntKind.i64.wrap (a + qk) = a + qk := by rw [IntKind.wrap_i64]; omega
            have hwr2 : wrap64 (a + qk) = a + qk := by unfold wrap64; omega
            simp only [Option.getD_some, Option.isSome_some]
            go_wp2_with (fail)
            go_ret
            exact ⟨by rw [HE.out]; rfl, hbl2⟩
        · have hb1 : (m == 1) = false := by simpa using hm1
          have HE := Lib.hid (show heldS s tab k tick = false by rw [HH.out, if_neg hm1])
          clear hm0 hm1 HH
          go_wp2_with (fail)
          go_ret
          exact ⟨by rw [HE.out]; rfl, hbl⟩
theorem choose_r24 (s : TSet) (vt vl : Value) (tab : List St) (i tick : Int) (w : World) (hv : Tasks w vt s.tasks) (hl : SlR StR 4 Any w vl tab) (hn : tab.length = s.tasks.length) (ha : ArrOk tab) (hq : ∀ k, k < s.tasks.length → 0 ≤ (s.tk k).q ∧ (s.tk k).q ≤ 10000) :
    Calls Tryz.prog 45 #[setV s vt, vl, .int .i64 i, .int .i64 tick] w fun e w' => e = .returned (.int .i64 (chooseS s tab i tick)) ∧ Below w.heap.size w w' := by
  obtain ⟨A, c, rfl, hcc, hcm⟩ := id hv
  obtain ⟨Al, cl, rfl, _, _⟩ := hl.form
  unfold maxLen at hcm
  have hcm := hcm.1
  have hA := (Ext.refl w).alloc (.cells #[.int .i64 s.reload, .slice A s.tasks.length c] 24)
  have hv2 := hv.ext hA
  have hl2 := hl.extT hA
  have hH := held_r24 s (.slice A s.tasks.length c) (.slice Al tab.length cl) tab i tick _ hv2 hl2 hn ha hq
  have HI := Lib.hid fun (j : Int) W' (h : Ext (w.alloc (.cells #[.int .i64 s.reload, .slice A s.tasks.length c] 24)) W') => there_r24 (.slice Al tab.length cl) tab j W' (hl2.extT h)
  have HR := Lib.hid fun (k : Nat) (hk : k < tab.length) W' (h : Ext (w.alloc (.cells #[.int .i64 s.reload, .slice A s.tasks.length c] 24)) W') => rank_r24 s (.slice A s.tasks.length c) (.slice Al tab.length cl) tab k W' (hv2.ext h) (hl2.extT h) hn hk
  unfold setV at hH HR
  have HHH := Lib.hid hH
  have hB : Blk (w.alloc (.cells #[.int .i64 s.reload, .slice A s.tasks.length c] 24)) w.heap.size #[.int .i64 s.reload, .slice A s.tasks.length c] 24 := Blk.new _ _ _
  have hab : Below w.heap.size w (w.alloc (.cells #[.int .i64 s.reload, .slice A s.tasks.length c] 24)) := (by repeat (first | exact Below.refl _ _ | assumption | refine Below.drew ?_ | refine Below.alloc ?_ (by first | (simp; done) | (simp; omega) | omega) _ | refine Below.setCell ?_ (by first | (simp; done) | (simp; omega) | omega) _))
  have hsz := hA.size
  have HN := Lib.hid hn
  have hln : s.tasks.length ≤ 9223372036854775807 := by omega
  have htl : (tab.length : Int) = (s.tasks.length : Int) := by omega
  have hcx := hB.under
  have HCH := Lib.hid (show chooseS s tab i tick = if heldS s tab i tick = true then i else bestS s tab tab.length from rfl)
  clear hH hv hl hA hv2 hl2 hn ha hq
  generalize heldS s tab i tick = hd at HHH HCH
  go_enter Tryz.func45, Tryz.ntmps45
  unfold setV
  go_upto_region 1 with (fail)
  generalize w.alloc _ = W at HI HR HHH hB hab hsz hcx ⊢
  have hcW := hcx W (Ext.refl W)
  go_wp2_with (fail)
  refine HHH.out.mono ?_
  rintro e w1 ⟨rfl, hb1⟩
  have hX1 : Ext W w1 := ⟨hb1⟩
  have hc1 := hcx w1 hX1
  clear hcW
  cases hd with
  | true =>
    have HE := Lib.hid (show chooseS s tab i tick = i by rw [HCH.out]; simp)
    go_wp2_with (fail)
    go_ret
    exact ⟨by rw [HE.out]; rfl, hab.trans (hX1.below.mono hsz)⟩
  | false =>
    have HE := Lib.hid (show chooseS s tab i tick = bestS s tab s.tasks.length by rw [HCH.out, ← HN.out]; simp)
    clear HCH HHH
    go_wp2_with (fail)
    go_loopw [9, 10] (fun b j wr => ∃ k : Nat, k ≤ s.tasks.length ∧ b = .int .i64 (bestS s tab k) ∧ j = .int .i64 k ∧ Ext W wr) (fun _ j _ => s.tasks.length - (intOf j).toNat)
    case atStart => exact ⟨0, Nat.zero_le _, rfl, rfl, hX1⟩
    case round =>
      obtain ⟨k, hk, rfl, rfl, hX⟩ := hrel
      have hcr := hcx wr hX
      clear hc1
      by_cases hlt : k < s.tasks.length
      · have hkt : k < tab.length := by rw [HN.out]; exact hlt
        have HI2 := Lib.hid fun W' (h : Ext W W') => HI.out (k : Int) W' h
        rw [hasB_nat] at HI2
        have HR1 := Lib.hid fun W' (h : Ext W W') => HR.out k hkt W' h
        have HS := Lib.hid (best_step s tab k)
        have hwr : IntKind.i64.wrap ((k : Int) + 1) = (k : Int) + 1 := by rw [IntKind.wrap_i64]; omega
        have hbs := best_spec s tab k
        rcases hbs with ⟨hb1, _⟩ | ⟨m, hb1, hb2, _, _⟩
        · rw [hb1] at HS ⊢
          have hu : ∀ p : Bool, (if p = true ∧ ((-1 : Int) = -1 ∨ rankS s tab k ≤ rankS s tab (-1 : Int).toNat) then (k : Int) else -1) = if p = true then (k : Int) else -1 := fun p => by cases p <;> simp
          rw [hu] at HS
          clear hu hb1
          generalize (stAt tab k).pend = p at HI2 HS
          cases p with
          | true =>
            have HS2 := Lib.hid (show bestS s tab (k + 1) = k by rw [HS.out]; simp)
            go_upto_region 7 with (fail)
            clear hcr
            refine wp_region_all (S := Ext W) (by kernel_rfl) (by kernel_rfl) hX.drew (fun K hK => ?_); (repeat (first | (apply hO_and (p := false) (q := true); (· rfl); (· rfl); (· rfl); (· rfl); simp only [Act.put, List.setIfInBounds_toArray, List.set_cons_zero, List.set_cons_succ]) | (apply hO_or (p := true) (q := true); (· rfl); (· rfl); (· rfl); (· rfl); simp only [Act.put, List.setIfInBounds_toArray, List.set_cons_zero, List.set_cons_succ]) | (apply hO_and; (· rfl); (· rfl); (· rfl); (· rfl); simp only [Act.put, List.setIfInBounds_toArray, List.set_cons_zero, List.set_cons_succ]) | (apply hO_or; (· rfl); (· rfl); (· rfl); (· rfl); simp only [Act.put, List.setIfInBounds_toArray, List.set_cons_zero, List.set_cons_succ]) | (apply hO_off; (· rfl); (· rfl); simp only [Act.put, List.setIfInBounds_toArray, List.set_cons_zero, List.set_cons_succ]) | (apply hO_un; (· rfl); (· rfl); simp only [Act.put, List.setIfInBounds_toArray, List.set_cons_zero, List.set_cons_succ]) | (apply hO_val; (· intro w hS; go_simp; with_reducible rfl); (· rfl); simp only [Act.put, List.setIfInBounds_toArray, List.set_cons_zero, List.set_cons_succ]) | (apply hO_call; (· rfl); (· intro w hS; go_simp; exact ⟨rfl, rfl⟩); (· intro w hS; first | exact callX hS (HI2.out _ hS) | exact callX hS (HR1.out _ hS)); simp only [Act.put, List.setIfInBounds_toArray, List.set_cons_zero, List.set_cons_succ]) | (apply hO_if; (· rfl); (· rfl); (· intro hif w hS; go_simp; with_reducible rfl); simp only [Act.put, List.setIfInBounds_toArray, List.set_cons_zero, List.set_cons_succ]) | (apply hO_ifcall; (· rfl); (· rfl); (· intro hif w hS; go_simp; exact ⟨rfl, rfl⟩); (· intro hif w hS; first | exact callX hS (HI2.out _ hS) | exact callX hS (HR1.out _ hS)); simp only [Act.put, List.setIfInBounds_toArray, List.set_cons_zero, List.set_cons_succ]))); refine hO_nil ?_; refine hK _ ?_; clear hK K
            intro w2 hX2
            have hc2 := hcx w2 hX2
            go_wp2_with (fail)
            exact ⟨⟨k + 1, hlt, by rw [HS2.out], rfl, hX2⟩, by simp [intOf]; omega⟩
          | false =>
            have HS2 := Lib.hid (show bestS s tab (k + 1) = -1 by rw [HS.out]; simp)
            go_upto_region 7 with (fail)
            clear hcr
            refine wp_region_all (S := Ext W) (by kernel_rfl) (by kernel_rfl) hX.drew (fun K hK => ?_); (repeat (first | (apply hO_and (p := false) (q := true); (· rfl); (· rfl); (· rfl); (· rfl); simp only [Act.put, List.setIfInBounds_toArray, List.set_cons_zero, List.set_cons_succ]) | (apply hO_or (p := true) (q := true); (· rfl); (· rfl); (· rfl); (· rfl); simp only [Act.put, List.setIfInBounds_toArray, List.set_cons_zero, List.set_cons_succ]) | (apply hO_and; (· rfl); (· rfl); (· rfl); (· rfl); simp only [Act.put, List.setIfInBounds_toArray, List.set_cons_zero, List.set_cons_succ]) | (apply hO_or; (· rfl); (· rfl); (· rfl); (· rfl); simp only [Act.put, List.setIfInBounds_toArray, List.set_cons_zero, List.set_cons_succ]) | (apply hO_off; (· rfl); (· rfl); simp only [Act.put, List.setIfInBounds_toArray, List.set_cons_zero, List.set_cons_succ]) | (apply hO_un; (· rfl); (· rfl); simp only [Act.put, List.setIfInBounds_toArray, List.set_cons_zero, List.set_cons_succ]) | (apply hO_val; (· intro w hS; go_simp; with_reducible rfl); (· rfl); simp only [Act.put, List.setIfInBounds_toArray, List.set_cons_zero, List.set_cons_succ]) | (apply hO_call; (· rfl); (· intro w hS; go_simp; exact ⟨rfl, rfl⟩); (· intro w hS; first | exact callX hS (HI2.out _ hS) | exact callX hS (HR1.out _ hS)); simp only [Act.put, List.setIfInBounds_toArray, List.set_cons_zero, List.set_cons_succ]) | (apply hO_if; (· rfl); (· rfl); (· intro hif w hS; go_simp; with_reducible rfl); simp only [Act.put, List.setIfInBounds_toArray, List.set_cons_zero, List.set_cons_succ]) | (apply hO_ifcall; (· rfl); (· rfl); (· intro hif w hS; go_simp; exact ⟨rfl, rfl⟩); (· intro hif w hS; first | exact callX hS (HI2.out _ hS) | exact callX hS (HR1.out _ hS)); simp only [Act.put, List.setIfInBounds_toArray, List.set_cons_zero, List.set_cons_succ]))); refine hO_nil ?_; refine hK _ ?_; clear hK K
            intro w2 hX2
            have hc2 := hcx w2 hX2
            go_wp2_with (fail)
            exact ⟨⟨k + 1, hlt, by rw [HS2.out], rfl, hX2⟩, by simp [intOf]; omega⟩
        · rw [hb1] at HS ⊢
          rw [Int.toNat_natCast] at HS
          have HR2 := Lib.hid fun W' (h : Ext W W') => HR.out m (by omega) W' h
          generalize (stAt tab k).pend = p at HI2 HS
          generalize rankS s tab k = rk at HR1 HS
          generalize rankS s tab m = rm at HR2 HS
          have hm1 : ((m : Int) == -1) = false := by simp
          cases p with
          | true =>
            go_upto_region 7 with (fail)
            clear hcr
            refine wp_region_all (S := Ext W) (by kernel_rfl) (by kernel_rfl) hX.drew (fun K hK => ?_); (repeat (first | (apply hO_and (p := false) (q := true); (· rfl); (· rfl); (· rfl); (· rfl); simp only [Act.put, List.setIfInBounds_toArray, List.set_cons_zero, List.set_cons_succ]) | (apply hO_or (p := true) (q := true); (· rfl); (· rfl); (· rfl); (· rfl); simp only [Act.put, List.setIfInBounds_toArray, List.set_cons_zero, List.set_cons_succ]) | (apply hO_and; (· rfl); (· rfl); (· rfl); (· rfl); simp only [Act.put, List.setIfInBounds_toArray, List.set_cons_zero, List.set_cons_succ]) | (apply hO_or; (· rfl); (· rfl); (· rfl); (· rfl); simp only [Act.put, List.setIfInBounds_toArray, List.set_cons_zero, List.set_cons_succ]) | (apply hO_off; (· rfl); (· rfl); simp only [Act.put, List.setIfInBounds_toArray, List.set_cons_zero, List.set_cons_succ]) | (apply hO_un; (· rfl); (· rfl); simp only [Act.put, List.setIfInBounds_toArray, List.set_cons_zero, List.set_cons_succ]) | (apply hO_val; (· intro w hS; go_simp; with_reducible rfl); (· rfl); simp only [Act.put, List.setIfInBounds_toArray, List.set_cons_zero, List.set_cons_succ]) | (apply hO_call; (· rfl); (· intro w hS; go_simp; exact ⟨rfl, rfl⟩); (· intro w hS; first | exact callX hS (HI2.out _ hS) | exact callX hS (HR1.out _ hS) | exact callX hS (HR2.out _ hS)); simp only [Act.put, List.setIfInBounds_toArray, List.set_cons_zero, List.set_cons_succ]) | (apply hO_if; (· rfl); (· rfl); (· intro hif w hS; go_simp; with_reducible rfl); simp only [Act.put, List.setIfInBounds_toArray, List.set_cons_zero, List.set_cons_succ]) | (apply hO_ifcall; (· rfl); (· rfl); (· intro hif w hS; go_simp; exact ⟨rfl, rfl⟩); (· intro hif w hS; first | exact callX hS (HI2.out _ hS) | exact callX hS (HR1.out _ hS) | exact callX hS (HR2.out _ hS)); simp only [Act.put, List.setIfInBounds_toArray, List.set_cons_zero, List.set_cons_succ]))); refine hO_nil ?_; refine hK _ ?_; clear hK K
            intro w2 hX2
            have hc2 := hcx w2 hX2
            by_cases hrr : rk ≤ rm
            · have hd : decide (rk ≤ rm) = true := decide_eq_true hrr
              have hd2 : (true && (false || decide (rk ≤ rm))) = true := by rw [hd]; rfl
              have HS2 := Lib.hid (show bestS s tab (k + 1) = k by rw [HS.out, if_pos ⟨rfl, .inr hrr⟩])
              go_wp2_with (fail)
              · exact ⟨⟨k + 1, hlt, by rw [HS2.out], rfl, hX2⟩, by simp [intOf]; omega⟩
              · rename_i h9
                rcases h9 with h9 | h9
                · cases h9
                · omega
            · have hd : decide (rk ≤ rm) = false := decide_eq_false hrr
              have HS2 := Lib.hid (show bestS s tab (k + 1) = m by rw [HS.out, if_neg (by omega)])
              go_wp2_with (fail)
              exact ⟨⟨k + 1, hlt, by rw [HS2.out], rfl, hX2⟩, by simp [intOf]; omega⟩
          | false =>
            have HS2 := Lib.hid (show bestS s tab (k + 1) = m by rw [HS.out]; simp)
            go_upto_region 7 with (fail)
            clear hcr
            refine wp_region_all (S := Ext W) (by kernel_rfl) (by kernel_rfl) hX.drew (fun K hK => ?_); (repeat (first | (apply hO_and (p := false) (q := true); (· rfl); (· rfl); (· rfl); (· rfl); simp only [Act.put, List.setIfInBounds_toArray, List.set_cons_zero, List.set_cons_succ]) | (apply hO_or (p := true) (q := true); (· rfl); (· rfl); (· rfl); (· rfl); simp only [Act.put, List.setIfInBounds_toArray, List.set_cons_zero, List.set_cons_succ]) | (apply hO_and; (· rfl); (· rfl); (· rfl); (· rfl); simp only [Act.put, List.setIfInBounds_toArray, List.set_cons_zero, List.set_cons_succ]) | (apply hO_or; (· rfl); (· rfl); (· rfl); (· rfl); simp only [Act.put, List.setIfInBounds_toArray, List.set_cons_zero, List.set_cons_succ]) | (apply hO_off; (· rfl); (· rfl); simp only [Act.put, List.setIfInBounds_toArray, List.set_cons_zero, List.set_cons_succ]) | (apply hO_un; (· rfl); (· rfl); simp only [Act.put, List.setIfInBounds_toArray, List.set_cons_zero, List.set_cons_succ]) | (apply hO_val; (· intro w hS; go_simp; with_reducible rfl); (· rfl); simp only [Act.put, List.setIfInBounds_toArray, List.set_cons_zero, List.set_cons_succ]) | (apply hO_call; (· rfl); (· intro w hS; go_simp; exact ⟨rfl, rfl⟩); (· intro w hS; first | exact callX hS (HI2.out _ hS) | exact callX hS (HR1.out _ hS) | exact callX hS (HR2.out _ hS)); simp only [Act.put, List.setIfInBounds_toArray, List.set_cons_zero, List.set_cons_succ]) | (apply hO_if; (· rfl); (· rfl); (· intro hif w hS; go_simp; with_reducible rfl); simp only [Act.put, List.setIfInBounds_toArray, List.set_cons_zero, List.set_cons_succ]) | (apply hO_ifcall; (· rfl); (· rfl); (· intro hif w hS; go_simp; exact ⟨rfl, rfl⟩); (· intro hif w hS; first | exact callX hS (HI2.out _ hS) | exact callX hS (HR1.out _ hS) | exact callX hS (HR2.out _ hS)); simp only [Act.put, List.setIfInBounds_toArray, List.set_cons_zero, List.set_cons_succ]))); refine hO_nil ?_; refine hK _ ?_; clear hK K
            intro w2 hX2
            have hc2 := hcx w2 hX2
            go_wp2_with (fail)
            exact ⟨⟨k + 1, hlt, by rw [HS2.out], rfl, hX2⟩, by simp [intOf]; omega⟩
      · obtain rfl : k = s.tasks.length := by omega
        go_wp2_with (fail)
        go_ret
        exact ⟨by rw [HE.out]; rfl, hab.trans (hX.below.mono hsz)⟩
end Go.Proofs.YtniejidekflmiaaGreatDoor
